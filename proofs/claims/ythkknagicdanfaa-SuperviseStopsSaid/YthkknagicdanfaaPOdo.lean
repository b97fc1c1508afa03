/- Plain mathematics of odometry: what is measured exists; estimates contain the true position. No program in sight. -/
import Derived.Test.YthkknagicdanfaaPTrain
set_option linter.unusedVariables false
set_option linter.unusedSimpArgs false
namespace Sg

theorem isMeas_up {c r d : Int} (h : mayB c r d d = true) (n : Nat) : ∃ x, d ≤ x ∧ x ≤ d + n ∧ mayB c r d x = true ∧ (x = d + n ∨ (x < d + n ∧ mayB c r d (x + 1) = false)) := by
  induction n with
  | zero => exact ⟨d, by omega, by omega, h, .inl (by omega)⟩
  | succ n ih =>
    obtain ⟨x, h1, h2, h3, h4⟩ := ih
    rcases h4 with h4 | h4
    · cases h5 : mayB c r d (x + 1)
      · exact ⟨x, h1, by omega, h3, .inr ⟨by omega, h5⟩⟩
      · exact ⟨x + 1, by omega, by omega, h5, .inl (by omega)⟩
    · exact ⟨x, h1, by omega, h3, .inr ⟨by omega, h4.2⟩⟩
theorem isMeas_down {c r d : Int} (h : mayB c r d d = true) (n : Nat) : ∃ x, x ≤ d ∧ d - n ≤ x ∧ mayB c r d x = true ∧ (x = d - n ∨ (d - n < x ∧ mayB c r d (x - 1) = false)) := by
  induction n with
  | zero => exact ⟨d, by omega, by omega, h, .inl (by omega)⟩
  | succ n ih =>
    obtain ⟨x, h1, h2, h3, h4⟩ := ih
    rcases h4 with h4 | h4
    · cases h5 : mayB c r d (x - 1)
      · exact ⟨x, h1, by omega, h3, .inr ⟨by omega, h5⟩⟩
      · exact ⟨x - 1, by omega, by omega, h5, .inl (by omega)⟩
    · exact ⟨x, h1, by omega, h3, .inr ⟨by omega, h4.2⟩⟩
theorem isMeas_exists {c r d : Int} (g : Int) (hc : 0 ≤ c ∧ c ≤ 500) (hr : 0 ≤ r ∧ r ≤ 100) (hd : 1 ≤ d) : ∃ x, IsMeas c r d g x := by
  have h := @mayB_self c r d hc hr hd
  by_cases hg : d ≤ g
  · obtain ⟨x, h1, h2, h3, h4⟩ := isMeas_up h (g - d).toNat
    have e : d + ((g - d).toNat : Int) = g := by omega
    rw [e] at h2 h4
    exact ⟨x, h3, by rcases h4 with h4 | h4; exact .inl h4; exact .inr (.inl h4)⟩
  · obtain ⟨x, h1, h2, h3, h4⟩ := isMeas_down h (d - g).toNat
    have e : d - ((d - g).toNat : Int) = g := by omega
    rw [e] at h2 h4
    exact ⟨x, h3, by rcases h4 with h4 | h4; exact .inl h4; exact .inr (.inr h4)⟩
theorem measV_spec {c r d : Int} (s : Int) (hc : 0 ≤ c ∧ c ≤ 500) (hr : 0 ≤ r ∧ r ≤ 100) (hd : 0 < d) : IsMeas c r (min d 1073741824) (min d 1073741824 + clampV s (-1073741824) 1073741824) (measV c r d s) := by
  obtain ⟨x, hx⟩ := @isMeas_exists c r (min d 1073741824) (min d 1073741824 + clampV s (-1073741824) 1073741824) hc hr (by omega)
  rw [measV_of hc hr hd hx]; exact hx
theorem errV_tenth {c r m : Int} (hc : 0 ≤ c ∧ c ≤ 500) (hr : 0 ≤ r ∧ r ≤ 100) (hm : 0 < m) : errV c r m ≤ 500 + m / 10 := by
  rw [errV_pos hm]
  have h1 : min m 1073741824 * r ≤ min m 1073741824 * 100 := Int.mul_le_mul_of_nonneg_left hr.2 (by omega)
  omega
theorem measV_may {c r d : Int} (s : Int) (hc : 0 ≤ c ∧ c ≤ 500) (hr : 0 ≤ r ∧ r ≤ 100) (hd : 0 < d) (hd2 : d ≤ 1073741824) : 1 ≤ measV c r d s ∧ measV c r d s ≤ 1300000000 ∧ measV c r d s - d ≤ errV c r (measV c r d s) ∧ d - measV c r d s ≤ errV c r (measV c r d s) := by
  have h := (measV_spec s hc hr hd).1
  have e : min d 1073741824 = d := by omega
  rw [e, mayB_true] at h
  have := @errV_bd c r (measV c r d s) hc hr
  omega
/-- The true position x and speed d after a movement lie within the estimate. -/
theorem contains_step {c r : Int} {E : Es} {x d : Int} (s : Int) (hc : 0 ≤ c ∧ c ≤ 500) (hr : 0 ≤ r ∧ r ≤ 100) (hd0 : 0 ≤ d) (hd1 : d ≤ 1000000) (hx0 : 0 ≤ x) (hx1 : x ≤ 1000000000)
    (h1 : E.min ≤ x) (h2 : x ≤ E.max) (b1 : -1073741824 ≤ E.min ∧ E.min ≤ 1073741824) (b2 : -1073741824 ≤ E.max ∧ E.max ≤ 1073741824) :
    (addV c r E (measV c r d s)).min ≤ x + d ∧ x + d ≤ (addV c r E (measV c r d s)).max ∧ d ≤ (addV c r E (measV c r d s)).speed ∧
    (-1073741824 ≤ (addV c r E (measV c r d s)).min ∧ (addV c r E (measV c r d s)).min ≤ 1073741824) ∧ (-1073741824 ≤ (addV c r E (measV c r d s)).max ∧ (addV c r E (measV c r d s)).max ≤ 1073741824) := by
  obtain ⟨m, hm⟩ : ∃ m, m = measV c r d s := ⟨_, rfl⟩
  obtain ⟨u, hu⟩ : ∃ u, u = addU c r m := ⟨_, rfl⟩
  have key : 0 ≤ m ∧ m ≤ 1112000 ∧ 0 ≤ u ∧ u ≤ 107374682 ∧ m - u ≤ d ∧ d ≤ m + u := by
    by_cases h0 : d = 0
    · subst h0
      have : m = 0 := by rw [hm]; exact measV_zero (by omega)
      subst this
      have : u = 0 := by rw [hu]; rfl
      omega
    · have h3 := measV_may s hc hr (show 0 < d by omega) (by omega)
      rw [← hm] at h3
      have h4 := @errV_tenth c r m hc hr (by omega)
      have h5 := @errV_bd c r m hc hr
      have e : clampV m 0 1073741824 = m := by unfold clampV; omega
      have : u = errV c r m := by rw [hu, addU, e]
      omega
  have e : clampV m 0 1073741824 = m := by unfold clampV; omega
  rw [← hm]
  unfold addV
  rw [← hu, e]
  simp only [clampV]
  omega
theorem fix_step {c r : Int} {E : Es} {x b v : Int} (hc : 0 ≤ c ∧ c ≤ 500) (hr : 0 ≤ r ∧ r ≤ 100) (hb0 : 0 ≤ b) (hb1 : b ≤ 1000000) (hx0 : 0 ≤ x) (hx1 : x ≤ 200000000) (h1 : E.min ≤ x) (h2 : x ≤ E.max) (h3 : v ≤ E.speed) :
    fixE c r E (x - b) b = 0 ∧ (fixV c r E (x - b) b).min ≤ x ∧ x ≤ (fixV c r E (x - b) b).max ∧ (fixV c r E (x - b) b).speed = E.speed ∧ E.min ≤ (fixV c r E (x - b) b).min ∧ (fixV c r E (x - b) b).max ≤ E.max := by
  have e1 : coV (x - b) = x - b := by unfold coV clampV; omega
  have e2 : coV b = b := by unfold coV clampV; omega
  have hu := @errV_bd c r b hc hr
  have hF : fixF c r E (x - b) b = ⟨max E.min (x - errV c r b), min E.max (x + errV c r b), E.speed⟩ := by
    unfold fixF
    rw [e1, e2, show x - b + b = x by omega]
  have hn : ¬ (fixF c r E (x - b) b).max < (fixF c r E (x - b) b).min := by rw [hF]; simp only; omega
  have hV : fixV c r E (x - b) b = ⟨max E.min (x - errV c r b), min E.max (x + errV c r b), E.speed⟩ := by unfold fixV; rw [if_neg hn, hF]
  rw [hV]
  refine ⟨by unfold fixE; rw [if_neg hn], ?_⟩
  dsimp only
  omega
end Sg
