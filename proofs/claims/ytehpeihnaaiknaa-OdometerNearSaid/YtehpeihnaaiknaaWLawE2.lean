/- Walks of chapter 31's laws, continued: OdometerNear. -/
import Derived.Test.YtehpeihnaaiknaaWLawE
import Derived.Test.YtehpeihnaaiknaaPOdo
set_option linter.unusedVariables false
set_option linter.unusedSimpArgs false
namespace Go.Proofs.Ytehpeihnaaiknaa
open Go.ChangeShapes Go.WideShapes Go.ChangeAt Go.RowKit
open Sg

set_option maxHeartbeats 2000000 in
theorem near_walk (T : Tr) (d s : Int) (w : World) (hs : T.name.size ≤ maxLen) :
    Calls Try.prog 4 #[.agg #[.int .i64 T.id, .string T.name, .int .i64 T.len, .int .i64 T.speed, .int .i64 T.accel, .int .i64 T.service, .int .i64 T.emergency, .int .i64 T.delay, .int .i64 T.cons, .int .i64 T.rate], .int .i64 d, .int .i64 s] w fun e w' => e = .returned (.bool true) ∧ Below w.heap.size w w' := by
  by_cases hk : chkE T = 0
  · have ok := chkE_ok hk
    have hc := ok.cons
    have hr := ok.rate
    have hk' : (chkE T != 0) = false := by simp [hk]
    clear hk ok
    by_cases h1 : d ≤ 1073741824
    · by_cases h2 : inB s (-1073741824) 1073741824 = true
      · obtain ⟨b1, b2⟩ := inB_true.1 h2
        by_cases h3 : d ≤ 0
        · have HE := Lib.hid (measV_zero (c := T.cons) (r := T.rate) (s := s) h3)
          go_enter Try.func4, Try.ntmps4
          go_wp2_with (first
            | (go_at_call 8; refine (to_after (rcheck_any T _ hs)).mono ?_; rintro e w' ⟨x, rfl, rfl⟩)
            | (go_at_call 12; refine (lcoord_any _ _).mono ?_; rintro e w' ⟨rfl, rfl⟩)
            | (go_at_call 9; refine (in_after x (meas_any T _ _ _ hc hr)).mono ?_; rintro e w' ⟨y, rfl, rfl⟩; rw [HE.out])
            | (go_at_call 11; refine (in_after y (alive_any _)).mono ?_; rintro e w' ⟨z, rfl, rfl⟩))
          go_ret
          exact ⟨rfl, ((Below.refl _ _).alloc (Nat.le_refl _) _).trans (z.is.mono (by simp))⟩
        · have H := measV_may s hc hr (show 0 < d by omega) h1
          have H2 := (measV_spec s hc hr (show 0 < d by omega)).2
          have e1 : min d 1073741824 = d := by omega
          have e2 : clampV s (-1073741824) 1073741824 = s := by unfold clampV; omega
          rw [e1, e2] at H2
          obtain ⟨m, hm⟩ : ∃ m, m = measV T.cons T.rate d s := ⟨_, rfl⟩
          rw [← hm] at H H2
          have HM := Lib.hid hm
          obtain ⟨m1, m2, m3, m4⟩ := H
          obtain ⟨u, hu⟩ : ∃ u, u = errV T.cons T.rate m := ⟨_, rfl⟩
          rw [← hu] at m3 m4
          have HU := Lib.hid hu
          clear hm hu e1 e2
          have key : ∃ n v, v = errV T.cons T.rate n ∧ ((n = m ∧ d + s ≤ m ∧ (m ≤ d + s ∨ m ≤ 1)) ∨ ((n == m) = false ∧ ((m < d + s ∧ n = m + 1) ∨ (d + s < m ∧ 1 < m ∧ n = m - 1)) ∧ (v < n - d ∨ (decide (v < n - d) = false ∧ v < d - n)))) := by
            rcases H2 with h | ⟨h, h'⟩ | ⟨h, h'⟩
            · exact ⟨m, _, rfl, .inl ⟨rfl, by omega, by omega⟩⟩
            · refine ⟨m + 1, _, rfl, .inr ⟨by simp; omega, .inl ⟨h, rfl⟩, ?_⟩⟩
              have : ¬ (1 ≤ m + 1 ∧ m + 1 - d ≤ errV T.cons T.rate (m + 1) ∧ d - (m + 1) ≤ errV T.cons T.rate (m + 1)) := fun hh => by rw [mayB_true.2 hh] at h'; cases h'
              simp; omega
            · by_cases hm1 : 1 < m
              · refine ⟨m - 1, _, rfl, .inr ⟨by simp; omega, .inr ⟨h, hm1, rfl⟩, ?_⟩⟩
                have : ¬ (1 ≤ m - 1 ∧ m - 1 - d ≤ errV T.cons T.rate (m - 1) ∧ d - (m - 1) ≤ errV T.cons T.rate (m - 1)) := fun hh => by rw [mayB_true.2 hh] at h'; cases h'
                simp; omega
              · exact ⟨m, _, rfl, .inl ⟨rfl, by omega, by omega⟩⟩
          obtain ⟨n, v, hv, key⟩ := key
          have hvb := errV_bd n hc hr
          rw [← hv] at hvb
          have HV := Lib.hid hv
          clear hv H2
          rcases key with ⟨rfl, k2, k3⟩ | ⟨k1, k2, k3⟩
          · have key : (decide (d + s < n) = true ∧ d + s < n ∧ n ≤ 1) ∨ decide (d + s < n) = false := by simp; omega
            clear k3
            rcases key with ⟨k3, k4, k5⟩ | k3
            all_goals go_enter Try.func4, Try.ntmps4
            all_goals go_wp2_with (first
              | (go_at_call 8; refine (to_after (rcheck_any T _ hs)).mono ?_; rintro e w' ⟨x, rfl, rfl⟩)
              | (go_at_call 12; refine (lcoord_any _ _).mono ?_; rintro e w' ⟨rfl, rfl⟩)
              | (go_at_call 9; refine (in_after x (meas_any T _ _ _ hc hr)).mono ?_; rintro e w' ⟨y, rfl, rfl⟩; rw [← HM.out]))
            all_goals refine (in_after y (rerr_any T _ _ hc hr)).mono ?_
            all_goals rintro e w' ⟨z, rfl, rfl⟩
            all_goals rw [← HU.out]
            all_goals go_wp2_with fail
            all_goals refine (in_after z (rerr_any T _ _ hc hr)).mono ?_
            all_goals rintro e w' ⟨z', rfl, rfl⟩
            all_goals rw [← HV.out]
            all_goals go_wp2_with (go_at_call 11; refine (in_after z' (alive_any _)).mono ?_; rintro e w' ⟨v, rfl, rfl⟩)
            all_goals go_ret
            all_goals exact ⟨rfl, ((Below.refl _ _).alloc (Nat.le_refl _) _).trans (v.is.mono (by simp))⟩
          · rcases k2 with ⟨k2, rfl⟩ | ⟨k2, k4, rfl⟩
            all_goals rcases k3 with k3 | ⟨k3, k5⟩
            all_goals go_enter Try.func4, Try.ntmps4
            all_goals go_wp2_with (first
              | (go_at_call 8; refine (to_after (rcheck_any T _ hs)).mono ?_; rintro e w' ⟨x, rfl, rfl⟩)
              | (go_at_call 12; refine (lcoord_any _ _).mono ?_; rintro e w' ⟨rfl, rfl⟩)
              | (go_at_call 9; refine (in_after x (meas_any T _ _ _ hc hr)).mono ?_; rintro e w' ⟨y, rfl, rfl⟩; rw [← HM.out]))
            all_goals refine (in_after y (rerr_any T _ _ hc hr)).mono ?_
            all_goals rintro e w' ⟨z, rfl, rfl⟩
            all_goals rw [← HU.out]
            all_goals go_wp2_with fail
            all_goals refine (in_after z (rerr_any T _ _ hc hr)).mono ?_
            all_goals rintro e w' ⟨z', rfl, rfl⟩
            all_goals rw [← HV.out]
            all_goals go_wp2_with (go_at_call 11; refine (in_after z' (alive_any _)).mono ?_; rintro e w' ⟨v, rfl, rfl⟩)
            all_goals go_ret
            all_goals exact ⟨rfl, ((Below.refl _ _).alloc (Nat.le_refl _) _).trans (v.is.mono (by simp))⟩
      · have h2' : inB s (-1073741824) 1073741824 = false := by simpa using h2
        clear h2
        go_enter Try.func4, Try.ntmps4
        go_wp2_with (first
          | (go_at_call 8; refine (to_after (rcheck_any T _ hs)).mono ?_; rintro e w' ⟨x, rfl, rfl⟩)
          | (go_at_call 12; refine (lcoord_any _ _).mono ?_; rintro e w' ⟨rfl, rfl⟩)
          | (go_at_call 11; refine (in_after x (alive_any _)).mono ?_; rintro e w' ⟨z, rfl, rfl⟩))
        go_ret
        exact ⟨rfl, ((Below.refl _ _).alloc (Nat.le_refl _) _).trans (z.is.mono (by simp))⟩
    · have h1' : decide (1073741824 < d) = true := by simp; omega
      clear h1
      go_enter Try.func4, Try.ntmps4
      go_wp2_with (first
        | (go_at_call 8; refine (to_after (rcheck_any T _ hs)).mono ?_; rintro e w' ⟨x, rfl, rfl⟩)
        | (go_at_call 11; refine (in_after x (alive_any _)).mono ?_; rintro e w' ⟨z, rfl, rfl⟩))
      go_ret
      exact ⟨rfl, ((Below.refl _ _).alloc (Nat.le_refl _) _).trans (z.is.mono (by simp))⟩
  · have hk' : (chkE T != 0) = true := by simp [hk]
    clear hk
    go_enter Try.func4, Try.ntmps4
    go_wp2_with (first
      | (go_at_call 8; refine (to_after (rcheck_any T _ hs)).mono ?_; rintro e w' ⟨x, rfl, rfl⟩)
      | (go_at_call 11; refine (in_after x (alive_any _)).mono ?_; rintro e w' ⟨z, rfl, rfl⟩))
    go_ret
    exact ⟨rfl, ((Below.refl _ _).alloc (Nat.le_refl _) _).trans (z.is.mono (by simp))⟩
end Go.Proofs.Ytehpeihnaaiknaa
