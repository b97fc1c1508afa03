/- Plain mathematics of braking: distances, times and speeds. No program in sight. -/
import Derived.Test.YthkknagicdanfaaPNum
set_option linter.unusedVariables false
set_option linter.unusedSimpArgs false
namespace Sg

def wtV (delay : Int) : Int := clampV delay 0 10
def stV (v : Int) : Int := min v 20000
def nV (v dec : Int) : Int := (stV v - 1) / dec
def triV (n : Int) : Int := n * (n + 1) / 2
def effV (dec grade : Int) : Int := max (clampV dec 0 200 + (981 * clampV grade (-1000) 1000) / 1000) 0
def dstV (v dec delay : Int) : Int := if v ≤ 0 then 0 else if dec < 1 then 1073741824 else wtV delay * stV v + nV v dec * stV v - dec * triV (nV v dec)
def timV (v dec delay : Int) : Int := if v ≤ 0 then 0 else if dec < 1 then 1073741824 else wtV delay + nV v dec + 1
def aftV (v dec delay cycles : Int) : Int :=
  if v ≤ 0 then 0 else if cycles ≤ wtV delay ∨ dec < 1 then stV v else if cycles - wtV delay > nV v dec then 0 else stV v - (cycles - wtV delay) * dec

theorem wtV_bd (d : Int) : 0 ≤ wtV d ∧ wtV d ≤ 10 := by unfold wtV clampV; omega
theorem wtV_mono {d e : Int} (h : d ≤ e) : wtV d ≤ wtV e := by unfold wtV clampV; omega
theorem stV_bd {v : Int} (h : 0 < v) : 1 ≤ stV v ∧ stV v ≤ 20000 := by unfold stV; omega
theorem stV_mono {v w : Int} (h : v ≤ w) : stV v ≤ stV w := by unfold stV; omega
theorem nV_bd {v dec : Int} (h : 0 < v) (hd : 1 ≤ dec) : 0 ≤ nV v dec ∧ nV v dec ≤ stV v - 1 := by
  have := stV_bd h
  exact ⟨Int.ediv_nonneg (by omega) (by omega), Int.ediv_le_self _ (by omega)⟩
theorem nV_mul {v dec : Int} (hd : 1 ≤ dec) : nV v dec * dec ≤ stV v - 1 ∧ stV v - 1 < (nV v dec + 1) * dec := by
  have h1 := Int.mul_ediv_add_emod (stV v - 1) dec
  have h2 := Int.emod_nonneg (stV v - 1) (show dec ≠ 0 by omega)
  have h3 := Int.emod_lt_of_pos (stV v - 1) (show 0 < dec by omega)
  have e : nV v dec * dec = dec * ((stV v - 1) / dec) := by rw [nV, Int.mul_comm]
  rw [Int.add_mul, e]; omega
theorem nV_lt {v dec k : Int} (hd : 1 ≤ dec) : nV v dec < k ↔ stV v ≤ k * dec := by
  have := @Int.ediv_lt_iff_lt_mul (stV v - 1) k dec (by omega)
  unfold nV; omega
theorem triV_two (n : Int) : 2 * triV n = n * (n + 1) := by
  unfold triV
  have : (n * (n + 1)) % 2 = 0 := by
    rcases Int.emod_two_eq n with h | h
    · rw [Int.mul_emod, h]; simp
    · rw [Int.mul_emod, Int.add_emod, h]; simp
  omega
theorem triV_succ (n : Int) : triV (n + 1) = triV n + n + 1 := by
  have h1 := triV_two n
  have h2 := triV_two (n + 1)
  have h3 : (n + 1) * (n + 1 + 1) = n * (n + 1) + 2 * n + 2 := by grind
  omega
theorem triV_nonneg {n : Int} (h : 0 ≤ n) : 0 ≤ triV n := by
  have h1 := triV_two n
  have h2 : 0 ≤ n * (n + 1) := Int.mul_nonneg h (by omega)
  omega
/-- The number of terms that the sum takes gives the greatest sum. -/
theorem top_sum {s dec n k : Int} (hd : 1 ≤ dec) (h1 : n * dec ≤ s - 1) (h2 : s - 1 < (n + 1) * dec) : k * s - dec * triV k ≤ n * s - dec * triV n := by
  have t1 := triV_two n
  have t2 := triV_two k
  have e : 2 * ((n * s - dec * triV n) - (k * s - dec * triV k)) = (n - k) * (2 * s - dec * (n + k + 1)) := by
    have : 2 * (dec * triV n) = dec * (n * (n + 1)) := by rw [← t1]; grind
    have : 2 * (dec * triV k) = dec * (k * (k + 1)) := by rw [← t2]; grind
    grind
  have g : 0 ≤ (n - k) * (2 * s - dec * (n + k + 1)) := by
    by_cases hk : k + 1 ≤ n
    · refine Int.mul_nonneg (by omega) ?_
      have : (n + k + 1) * dec ≤ (2 * n) * dec := Int.mul_le_mul_of_nonneg_right (by omega) (by omega)
      rw [Int.mul_comm dec]
      have : 2 * n * dec = 2 * (n * dec) := by grind
      omega
    · by_cases hk2 : n + 1 ≤ k
      · have : (2 * (n + 1)) * dec ≤ (n + k + 1) * dec := Int.mul_le_mul_of_nonneg_right (by omega) (by omega)
        have h3 : 2 * (n + 1) * dec = 2 * ((n + 1) * dec) := by grind
        have h4 : 2 * s - dec * (n + k + 1) ≤ 0 := by rw [Int.mul_comm dec]; omega
        have := Int.mul_nonneg (show 0 ≤ k - n by omega) (show 0 ≤ -(2 * s - dec * (n + k + 1)) by omega)
        grind
      · have : n = k := by omega
        subst this; simp
  omega
theorem dstV_pos {v dec delay : Int} (hv : 0 < v) (hd : 1 ≤ dec) : dstV v dec delay = wtV delay * stV v + nV v dec * stV v - dec * triV (nV v dec) := by
  rw [dstV, if_neg (by omega), if_neg (by omega)]
theorem timV_pos {v dec delay : Int} (hv : 0 < v) (hd : 1 ≤ dec) : timV v dec delay = wtV delay + nV v dec + 1 := by
  rw [timV, if_neg (by omega), if_neg (by omega)]
theorem dst_part {v dec : Int} (hv : 0 < v) (hd : 1 ≤ dec) : 0 ≤ nV v dec * stV v - dec * triV (nV v dec) ∧ nV v dec * stV v - dec * triV (nV v dec) ≤ 400000000 := by
  obtain ⟨h1, h2⟩ := @nV_mul v dec hd
  have h3 := @top_sum (stV v) dec (nV v dec) 0 hd h1 h2
  have h0 : triV 0 = 0 := rfl
  have hn := nV_bd hv hd
  have hs := stV_bd hv
  have h4 : nV v dec * stV v ≤ 20000 * 20000 := Int.mul_le_mul (by omega) (by omega) (by omega) (by omega)
  have h5 : 0 ≤ dec * triV (nV v dec) := Int.mul_nonneg (by omega) (triV_nonneg hn.1)
  rw [h0] at h3
  omega
theorem wt_part {v : Int} (delay : Int) (hv : 0 < v) : 0 ≤ wtV delay * stV v ∧ wtV delay * stV v ≤ 200000 := by
  have hs := stV_bd hv
  have hw := wtV_bd delay
  exact ⟨Int.mul_nonneg (by omega) (by omega), by have := Int.mul_le_mul (show wtV delay ≤ 10 by omega) (show stV v ≤ 20000 by omega) (by omega) (by omega); omega⟩
theorem dstV_bd (v dec delay : Int) : 0 ≤ dstV v dec delay ∧ dstV v dec delay ≤ 1073741824 := by
  by_cases hv : v ≤ 0
  · rw [dstV, if_pos hv]; omega
  · by_cases hd : dec < 1
    · rw [dstV, if_neg hv, if_pos hd]; omega
    · rw [dstV_pos (by omega) (by omega)]
      have := @dst_part v dec (by omega) (by omega)
      have := @wt_part v delay (by omega)
      omega
theorem dstV_mono {v w dec delay : Int} (h : v ≤ w) : dstV v dec delay ≤ dstV w dec delay := by
  by_cases hv : v ≤ 0
  · have := dstV_bd w dec delay
    rw [dstV, if_pos hv]; omega
  · by_cases hd : dec < 1
    · rw [dstV, if_neg hv, if_pos hd, dstV, if_neg (by omega), if_pos hd]; omega
    · rw [dstV_pos (by omega) (by omega), dstV_pos (by omega) (by omega)]
      obtain ⟨h1, h2⟩ := @nV_mul w dec (by omega)
      have h3 := @top_sum (stV w) dec (nV w dec) (nV v dec) (by omega) h1 h2
      have hs := stV_mono h
      have hn := @nV_bd v dec (by omega) (by omega)
      have h4 : nV v dec * stV v ≤ nV v dec * stV w := Int.mul_le_mul_of_nonneg_left hs hn.1
      have h5 : wtV delay * stV v ≤ wtV delay * stV w := Int.mul_le_mul_of_nonneg_left hs (wtV_bd _).1
      omega
theorem dstV_harder {v dec more delay : Int} (h1 : 1 ≤ dec) (h : dec ≤ more) : dstV v more delay ≤ dstV v dec delay := by
  by_cases hv : v ≤ 0
  · rw [dstV, if_pos hv, dstV, if_pos hv]; omega
  · rw [dstV_pos (by omega) (by omega), dstV_pos (by omega) (by omega)]
    obtain ⟨h2, h3⟩ := @nV_mul v dec (by omega)
    have h4 := @top_sum (stV v) dec (nV v dec) (nV v more) (by omega) h2 h3
    have hn := @nV_bd v more (by omega) (by omega)
    have h5 : dec * triV (nV v more) ≤ more * triV (nV v more) := Int.mul_le_mul_of_nonneg_right h (triV_nonneg hn.1)
    omega
theorem dstV_longer {v dec delay longer : Int} (h : delay ≤ longer) : dstV v dec delay ≤ dstV v dec longer := by
  unfold dstV
  split
  · omega
  · split
    · omega
    · have hs := @stV_bd v (by omega)
      have : wtV delay * stV v ≤ wtV longer * stV v := Int.mul_le_mul_of_nonneg_right (wtV_mono h) (by omega)
      omega
theorem nV_mono {v w dec : Int} (hd : 1 ≤ dec) (h : v ≤ w) : nV v dec ≤ nV w dec := Int.ediv_le_ediv (by omega) (by have := stV_mono h; omega)
theorem nV_harder {v dec more : Int} (hv : 0 < v) (hd : 1 ≤ dec) (h : dec ≤ more) : nV v more ≤ nV v dec := by
  have h1 := @nV_lt v dec (nV v dec + 1) hd
  have h2 := @nV_lt v more (nV v dec + 1) (by omega)
  have h3 := nV_bd hv hd
  have : (nV v dec + 1) * dec ≤ (nV v dec + 1) * more := Int.mul_le_mul_of_nonneg_left h (by omega)
  omega
theorem timV_bd {v dec delay : Int} (hd : 1 ≤ dec) : 0 ≤ timV v dec delay ∧ timV v dec delay ≤ 20010 := by
  by_cases hv : v ≤ 0
  · rw [timV, if_pos hv]; omega
  · rw [timV_pos (by omega) hd]
    have := @nV_bd v dec (by omega) hd
    have := @stV_bd v (by omega)
    have := wtV_bd delay
    omega
theorem timV_any (v dec delay : Int) : 0 ≤ timV v dec delay ∧ timV v dec delay ≤ 1073741824 := by
  by_cases hd : 1 ≤ dec
  · have := @timV_bd v dec delay hd; omega
  · unfold timV; split
    · omega
    · rw [if_pos (by omega)]; omega
theorem timV_mono {v w dec delay : Int} (hd : 1 ≤ dec) (h : v ≤ w) : timV v dec delay ≤ timV w dec delay := by
  by_cases hv : v ≤ 0
  · have := @timV_bd w dec delay hd
    rw [timV, if_pos hv]; omega
  · rw [timV_pos (by omega) hd, timV_pos (by omega) hd]
    have := nV_mono hd h
    omega
theorem timV_harder {v dec more delay : Int} (hd : 1 ≤ dec) (h : dec ≤ more) : timV v more delay ≤ timV v dec delay := by
  by_cases hv : v ≤ 0
  · rw [timV, if_pos hv, timV, if_pos hv]; omega
  · rw [timV_pos (by omega) (by omega), timV_pos (by omega) hd]
    have := @nV_harder v dec more (by omega) hd h
    omega
theorem aftV_bd (v dec delay c : Int) : 0 ≤ aftV v dec delay c ∧ aftV v dec delay c ≤ 20000 := by
  unfold aftV
  split
  · omega
  · have := @stV_bd v (by omega)
    split
    · omega
    · split
      · omega
      · have h1 := @nV_lt v dec (c - wtV delay) (by omega)
        have := Int.mul_nonneg (show 0 ≤ c - wtV delay by omega) (show 0 ≤ dec by omega)
        omega
/-- The distance after i cycles of braking. -/
def goneV (v dec delay i : Int) : Int :=
  if v ≤ 0 then 0 else if i ≤ wtV delay then i * stV v else wtV delay * stV v + (min (i - wtV delay) (nV v dec) * stV v - dec * triV (min (i - wtV delay) (nV v dec)))
theorem goneV_zero (v dec delay : Int) : goneV v dec delay 0 = 0 := by
  unfold goneV; have := wtV_bd delay
  split
  · rfl
  · rw [if_pos (by omega)]; simp
theorem goneV_a {v dec delay i : Int} (hv : 0 < v) (h : i ≤ wtV delay) : goneV v dec delay i = i * stV v := by rw [goneV, if_neg (by omega), if_pos h]
theorem goneV_b {v dec delay i : Int} (hv : 0 < v) (hd : 1 ≤ dec) (h : wtV delay ≤ i) {k : Int} (hk : min (i - wtV delay) (nV v dec) = k) : goneV v dec delay i = wtV delay * stV v + (k * stV v - dec * triV k) := by
  have hn := nV_bd hv hd
  by_cases h1 : i ≤ wtV delay
  · rw [goneV_a hv h1]
    have : i = wtV delay := by omega
    have : k = 0 := by omega
    subst i k
    have : triV 0 = 0 := rfl
    rw [this]; simp
  · rw [goneV, if_neg (by omega), if_neg h1, hk]
theorem aftV_a {v dec delay i : Int} (hv : 0 < v) (h : i ≤ wtV delay) : aftV v dec delay i = stV v := by rw [aftV, if_neg (by omega), if_pos (.inl h)]
theorem aftV_b {v dec delay i : Int} (hv : 0 < v) (hd : 1 ≤ dec) (h : wtV delay < i) (h2 : i - wtV delay > nV v dec) : aftV v dec delay i = 0 := by rw [aftV, if_neg (by omega), if_neg (by omega), if_pos h2]
theorem aftV_c {v dec delay i : Int} (hv : 0 < v) (hd : 1 ≤ dec) (h : wtV delay < i) (h2 : ¬ i - wtV delay > nV v dec) : aftV v dec delay i = stV v - (i - wtV delay) * dec := by rw [aftV, if_neg (by omega), if_neg (by omega), if_neg h2]
theorem goneV_succ {v dec delay i : Int} (hd : 1 ≤ dec) (hi : 0 ≤ i) : goneV v dec delay (i + 1) = goneV v dec delay i + aftV v dec delay (i + 1) := by
  by_cases hv : v ≤ 0
  · simp [goneV, aftV, hv]
  · have hv' : 0 < v := by omega
    have hn := nV_bd hv' hd
    by_cases h1 : i + 1 ≤ wtV delay
    · rw [goneV_a hv' h1, goneV_a hv' (by omega), aftV_a hv' h1]; grind
    · by_cases h3 : i + 1 - wtV delay > nV v dec
      · rw [goneV_b hv' hd (by omega) (k := nV v dec) (by omega), goneV_b hv' hd (by omega) (k := nV v dec) (by omega), aftV_b hv' hd (by omega) h3]; omega
      · rw [goneV_b hv' hd (by omega) (k := i - wtV delay + 1) (by omega), goneV_b hv' hd (by omega) (k := i - wtV delay) (by omega), aftV_c hv' hd (by omega) h3, triV_succ]
        have e3 : i + 1 - wtV delay = (i - wtV delay) + 1 := by omega
        rw [e3]
        generalize i - wtV delay = k
        grind
theorem goneV_end {v dec delay : Int} (hd : 1 ≤ dec) : goneV v dec delay (timV v dec delay) = dstV v dec delay := by
  by_cases hv : v ≤ 0
  · rw [goneV, if_pos hv, dstV, if_pos hv]
  · have hn := @nV_bd v dec (by omega) hd
    rw [goneV, if_neg hv, dstV_pos (by omega) hd, timV_pos (by omega) hd, if_neg (by omega)]
    have : min (wtV delay + nV v dec + 1 - wtV delay) (nV v dec) = nV v dec := by omega
    rw [this]; omega
theorem aftV_end {v dec delay : Int} (hd : 1 ≤ dec) : aftV v dec delay (timV v dec delay) = 0 := by
  by_cases hv : v ≤ 0
  · rw [aftV, if_pos hv]
  · have hn := @nV_bd v dec (by omega) hd
    rw [aftV, if_neg hv, timV_pos (by omega) hd, if_neg (by omega), if_pos (by omega)]
theorem aftV_zero {v dec delay i : Int} (hd : 1 ≤ dec) (hi : 1 ≤ i) (hin : i ≤ timV v dec delay) (h : aftV v dec delay i = 0) : ¬ i < timV v dec delay := by
  intro hlt
  by_cases hv : v ≤ 0
  · rw [timV, if_pos hv] at hin; omega
  · have hn := @nV_bd v dec (by omega) hd
    have hs := @stV_bd v (by omega)
    rw [timV_pos (by omega) hd] at hlt
    unfold aftV at h
    rw [if_neg hv] at h
    by_cases h1 : i ≤ wtV delay ∨ dec < 1
    · rw [if_pos h1] at h; omega
    · rw [if_neg h1, if_neg (by omega)] at h
      have := @nV_lt v dec (i - wtV delay) hd
      omega
theorem goneV_bd {v dec delay i : Int} (hd : 1 ≤ dec) (hi : 0 ≤ i) : 0 ≤ goneV v dec delay i ∧ goneV v dec delay i ≤ 20000 * i := by
  obtain ⟨n, rfl⟩ := Int.eq_ofNat_of_zero_le hi
  clear hi
  induction n with
  | zero => have := goneV_zero v dec delay; simp at this ⊢; omega
  | succ n ih =>
    have h1 := @goneV_succ v dec delay n hd (by omega)
    have h2 := aftV_bd v dec delay (n + 1)
    have : ((n + 1 : Nat) : Int) = (n : Int) + 1 := by omega
    rw [this]; omega

def IsSpeed (d dec delay r : Int) : Prop := (d < 0 → r = -1) ∧ (0 ≤ d → 0 ≤ r ∧ r ≤ 10000 ∧ dstV r dec delay ≤ d ∧ (r = 10000 ∨ d < dstV (r + 1) dec delay))
theorem IsSpeed.eq {d dec delay r s : Int} (h : IsSpeed d dec delay r) (g : IsSpeed d dec delay s) : r = s := by
  by_cases hd : d < 0
  · rw [h.1 hd, g.1 hd]
  · obtain ⟨h1, h2, h3, h4⟩ := h.2 (by omega)
    obtain ⟨g1, g2, g3, g4⟩ := g.2 (by omega)
    by_cases e1 : r + 1 ≤ s
    · have := @dstV_mono (r + 1) s dec delay e1
      omega
    · by_cases e2 : s + 1 ≤ r
      · have := @dstV_mono (s + 1) r dec delay e2
        omega
      · omega
open Classical in
noncomputable def spdV (d dec delay : Int) : Int := if h : ∃ r, IsSpeed d dec delay r then h.choose else 0
theorem IsSpeed.spd {d dec delay r : Int} (h : IsSpeed d dec delay r) : r = spdV d dec delay := by
  have hx : ∃ r, IsSpeed d dec delay r := ⟨r, h⟩
  rw [spdV, dif_pos hx]; exact h.eq hx.choose_spec
theorem isSpeed_step {dec delay d : Int} (hd : 0 ≤ d) : ∀ n : Nat, n ≤ 10000 → (∃ r : Int, 0 ≤ r ∧ r ≤ n ∧ dstV r dec delay ≤ d ∧ (r = n ∨ d < dstV (r + 1) dec delay)) := by
  intro n
  induction n with
  | zero => intro _; exact ⟨0, by omega, by omega, by rw [dstV, if_pos (by omega)]; exact hd, .inl rfl⟩
  | succ n ih =>
    intro hn
    obtain ⟨r, h1, h2, h3, h4⟩ := ih (by omega)
    rcases h4 with h4 | h4
    · by_cases h5 : d < dstV (r + 1) dec delay
      · exact ⟨r, h1, by omega, h3, .inr h5⟩
      · exact ⟨r + 1, by omega, by omega, by omega, .inl (by omega)⟩
    · exact ⟨r, h1, by omega, h3, .inr h4⟩
theorem spdV_is (d dec delay : Int) : IsSpeed d dec delay (spdV d dec delay) := by
  have hx : ∃ r, IsSpeed d dec delay r := by
    by_cases hd : d < 0
    · exact ⟨-1, fun _ => rfl, fun h => by omega⟩
    · obtain ⟨r, h1, h2, h3, h4⟩ := isSpeed_step (dec := dec) (delay := delay) (show 0 ≤ d by omega) 10000 (by omega)
      exact ⟨r, fun h => by omega, fun _ => ⟨h1, h2, h3, h4⟩⟩
  rw [spdV, dif_pos hx]; exact hx.choose_spec
theorem spdV_bd (d dec delay : Int) : -1 ≤ spdV d dec delay ∧ spdV d dec delay ≤ 10000 := by
  have h := spdV_is d dec delay
  by_cases hd : d < 0
  · have := h.1 hd; omega
  · have := h.2 (by omega); omega
theorem effV_flo (dec grade : Int) : effV dec grade = max (clampV dec 0 200 + floV (981 * clampV grade (-1000) 1000) 1000) 0 := by
  rw [floV_pos (by omega)]; rfl
theorem effV_bd (dec grade : Int) : 0 ≤ effV dec grade ∧ effV dec grade ≤ 1181 := by unfold effV clampV; omega
end Sg
