/- Plain mathematics for package num: quotients that are rounded down or up, and bounds. No program in sight. -/
namespace Sg

def divE (a b : Int) : Int := if b = 0 then 1 else if a = -9223372036854775808 ∧ b = -1 then 17 else 0
def floV (a b : Int) : Int := if divE a b = 0 then a.fdiv b else 0
def ceiV (a b : Int) : Int := if divE a b = 0 then (if a.tmod b = 0 then a.fdiv b else a.fdiv b + 1) else 0
def clampV (n lo hi : Int) : Int := max lo (min n hi)

theorem divE_zero {a b : Int} (h : divE a b = 0) : b ≠ 0 ∧ ¬ (a = -9223372036854775808 ∧ b = -1) := by
  unfold divE at h
  by_cases hb : b = 0
  · simp [hb] at h
  · refine ⟨hb, fun h2 => ?_⟩
    rw [if_neg hb, if_pos h2] at h
    omega

theorem quo_bd (a b : Int) (ha : -9223372036854775808 ≤ a) (ha2 : a ≤ 9223372036854775807) (hb : b ≠ 0) (h : ¬ (a = -9223372036854775808 ∧ b = -1)) : -9223372036854775808 ≤ a.tdiv b ∧ a.tdiv b ≤ 9223372036854775807 := by
  have h1 := Int.natAbs_tdiv a b
  have h2 : a.natAbs.div b.natAbs ≤ a.natAbs := Nat.div_le_self _ _
  by_cases e : a = -9223372036854775808
  · have hb1 : b ≠ -1 := fun hb1 => h ⟨e, hb1⟩
    by_cases hb2 : b = 1
    · subst hb2; simp; omega
    · have h3 : a.natAbs.div b.natAbs ≤ a.natAbs / 2 := Nat.div_le_div_left (by omega) (by omega)
      omega
  · omega

theorem dvd_tmod {a b : Int} : b ∣ a ↔ a.tmod b = 0 := Int.dvd_iff_tmod_eq_zero

theorem big_of_rest {a b : Int} (hb : b ≠ 0) (hm : a.tmod b ≠ 0) : b ≤ -2 ∨ 2 ≤ b := by
  by_cases h1 : b = 1
  · subst h1; simp at hm
  · by_cases h2 : b = -1
    · subst h2; exfalso; apply hm; rw [← Int.dvd_iff_tmod_eq_zero]; exact ⟨-a, by omega⟩
    · omega

theorem quo_bd2 (a b : Int) (ha : -9223372036854775808 ≤ a) (ha2 : a ≤ 9223372036854775807) (hb : b ≠ 0) (hm : a.tmod b ≠ 0) : -4611686018427387904 ≤ a.tdiv b ∧ a.tdiv b ≤ 4611686018427387904 := by
  have h1 := Int.natAbs_tdiv a b
  have h3 : a.natAbs.div b.natAbs ≤ a.natAbs / 2 := Nat.div_le_div_left (by have := big_of_rest hb hm; omega) (by omega)
  omega

theorem floV_zero {a b : Int} (h : divE a b = 0) (hm : a.tmod b = 0) : floV a b = a.tdiv b := by
  rw [floV, if_pos h, Int.fdiv_eq_tdiv, if_pos (dvd_tmod.2 hm)]; omega
theorem floV_down {a b : Int} (h : divE a b = 0) (hm : a.tmod b ≠ 0) (hs : (a < 0 ∧ 0 ≤ b) ∨ (0 ≤ a ∧ b < 0)) : floV a b = a.tdiv b - 1 := by
  have hb := (divE_zero h).1
  rw [floV, if_pos h, Int.fdiv_eq_tdiv, if_neg (fun hd => hm (dvd_tmod.1 hd))]
  rcases hs with ⟨h1, h2⟩ | ⟨h1, h2⟩
  · rw [if_neg (by omega), if_pos h2, Int.sign_eq_one_of_pos (by omega)]
  · rw [if_pos h1, if_neg (by omega)]
theorem floV_same {a b : Int} (h : divE a b = 0) (hm : a.tmod b ≠ 0) (hs : (a < 0 ∧ b < 0) ∨ (0 ≤ a ∧ 0 ≤ b)) : floV a b = a.tdiv b := by
  rw [floV, if_pos h, Int.fdiv_eq_tdiv, if_neg (fun hd => hm (dvd_tmod.1 hd))]
  rcases hs with ⟨h1, h2⟩ | ⟨h1, h2⟩
  · rw [if_neg (by omega), if_neg (by omega), Int.sign_eq_neg_one_of_neg h2]; omega
  · rw [if_pos h1, if_pos h2]; omega
theorem floV_bad {a b : Int} (h : divE a b ≠ 0) : floV a b = 0 := by rw [floV, if_neg h]
theorem ceiV_bad {a b : Int} (h : divE a b ≠ 0) : ceiV a b = 0 := by rw [ceiV, if_neg h]
theorem ceiV_zero {a b : Int} (h : divE a b = 0) (hm : a.tmod b = 0) : ceiV a b = a.tdiv b := by
  rw [ceiV, if_pos h, if_pos hm, ← floV_zero h hm, floV, if_pos h]
theorem ceiV_up {a b : Int} (h : divE a b = 0) (hm : a.tmod b ≠ 0) : ceiV a b = floV a b + 1 := by
  rw [ceiV, if_pos h, if_neg hm, floV, if_pos h]

theorem floV_pos {a b : Int} (hb : 0 < b) : floV a b = a / b := by
  have h : divE a b = 0 := by unfold divE; rw [if_neg (by omega), if_neg (by omega)]
  rw [floV, if_pos h, Int.fdiv_eq_ediv_of_nonneg _ (by omega)]
theorem divE_pos {a b : Int} (hb : 0 < b) : divE a b = 0 := by unfold divE; rw [if_neg (by omega), if_neg (by omega)]

theorem clampV_le {n lo hi : Int} (h : lo ≤ hi) : lo ≤ clampV n lo hi ∧ clampV n lo hi ≤ hi := by unfold clampV; omega
def IsRoot (n r : Int) : Prop := 0 ≤ r ∧ r ≤ 3037000499 ∧ (n < 1 → r = 0) ∧ (1 ≤ n → r * r ≤ n ∧ n < (r + 1) * (r + 1))
theorem sq_bd {n c : Int} (hn : n ≤ 9223372036854775807) (hc : 0 ≤ c) (h : c * c ≤ n) : c ≤ 3037000499 := by
  by_cases h2 : c ≤ 3037000499
  · exact h2
  · have h3 : 3037000500 ≤ c := by omega
    have := Int.mul_le_mul h3 h3 (by omega) (by omega)
    omega
theorem sq_lt (c : Int) (hc : 0 ≤ c) : c * c < (c + 1) * (c + 1) := by grind
theorem le_quo {n c : Int} (hc : 0 < c) : c ≤ n / c ↔ c * c ≤ n := Int.le_ediv_iff_mul_le hc
theorem flo_rest {a b : Int} (h : divE a b = 0) : (0 < b → 0 ≤ a - floV a b * b ∧ a - floV a b * b < b) ∧ (b < 0 → b < a - floV a b * b ∧ a - floV a b * b ≤ 0) ∧ (a - floV a b * b = 0 ↔ a.tmod b = 0) := by
  have hb := (divE_zero h).1
  have e : a - floV a b * b = a.fmod b := by rw [Int.fmod_def, floV, if_pos h, Int.mul_comm]
  rw [e]
  refine ⟨fun hp => ⟨Int.fmod_nonneg_of_pos _ hp, Int.fmod_lt_of_pos _ hp⟩, fun hn => ?_, ?_⟩
  · have h1 := Int.mul_fdiv_add_fmod a b
    have h2 : (-a).fmod (-b) = - a.fmod b := by simp
    have h3 := Int.fmod_nonneg_of_pos (-a) (show 0 < -b by omega)
    have h4 := Int.fmod_lt_of_pos (-a) (show 0 < -b by omega)
    omega
  · rw [← Int.dvd_iff_fmod_eq_zero, Int.dvd_iff_tmod_eq_zero]
theorem root_eq {n r s : Int} (h : IsRoot n r) (hn : 1 ≤ n) (hs : 0 ≤ s) (h1 : s * s ≤ n) (h2 : n < (s + 1) * (s + 1)) : r = s := by
  obtain ⟨h0, _, _, h3⟩ := h
  obtain ⟨h4, h5⟩ := h3 hn
  by_cases hlt : r < s
  · have := Int.mul_le_mul (show r + 1 ≤ s by omega) (show r + 1 ≤ s by omega) (by omega) (by omega)
    omega
  · by_cases hgt : s < r
    · have := Int.mul_le_mul (show s + 1 ≤ r by omega) (show s + 1 ≤ r by omega) (by omega) (by omega)
      omega
    · omega
theorem floV_bd {a b : Int} (ha : -9223372036854775808 ≤ a) (ha2 : a ≤ 9223372036854775807) (h : divE a b = 0) : -9223372036854775808 ≤ floV a b ∧ floV a b ≤ 9223372036854775807 ∧ -9223372036854775808 ≤ ceiV a b ∧ ceiV a b ≤ 9223372036854775807 := by
  obtain ⟨hb, h17⟩ := divE_zero h
  by_cases hm : a.tmod b = 0
  · rw [floV_zero h hm, ceiV_zero h hm]
    have := quo_bd a b ha ha2 hb h17
    omega
  · have hq := quo_bd2 a b ha ha2 hb hm
    have hc := ceiV_up h hm
    by_cases hs : (a < 0 ∧ 0 ≤ b) ∨ (0 ≤ a ∧ b < 0)
    · have := floV_down h hm hs; omega
    · have := floV_same h hm (by omega); omega
def backL (xs : List Int) (k : Nat) : List Int := (List.range k).map fun i => xs.getD (xs.length - 1 - i) 0
def turnL (xs : List Int) (a k : Nat) : List Int := (List.range k).map fun i => xs.getD ((i + a) % xs.length) 0
theorem backL_len (xs : List Int) (k : Nat) : (backL xs k).length = k := by simp [backL]
theorem turnL_len (xs : List Int) (a k : Nat) : (turnL xs a k).length = k := by simp [turnL]
theorem backL_succ (xs : List Int) (k : Nat) : backL xs (k + 1) = backL xs k ++ [xs.getD (xs.length - 1 - k) 0] := by simp [backL, List.range_succ]
theorem turnL_succ (xs : List Int) (a k : Nat) : turnL xs a (k + 1) = turnL xs a k ++ [xs.getD ((k + a) % xs.length) 0] := by simp [turnL, List.range_succ]
theorem backL_all (xs : List Int) : backL xs xs.length = xs.reverse := by
  apply List.ext_getElem
  · simp [backL_len]
  · intro i h1 h2
    simp [backL] at h1 ⊢
    rw [List.getElem?_eq_getElem (by omega)]; rfl
theorem turnL_all (xs : List Int) (a : Nat) (h : a < xs.length) : turnL xs a xs.length = xs.drop a ++ xs.take a := by
  apply List.ext_getElem
  · simp [turnL_len]; omega
  · intro i h1 h2
    simp [turnL] at h1 ⊢
    by_cases hi : i + a < xs.length
    · rw [List.getElem_append_left (by simp; omega), Nat.mod_eq_of_lt hi, List.getElem?_eq_getElem hi, List.getElem_drop]
      simp [Nat.add_comm]
    · rw [List.getElem_append_right (by simp; omega), List.getElem_take]
      have e : (i + a) % xs.length = i + a - xs.length := by rw [Nat.mod_eq_sub_mod (by omega), Nat.mod_eq_of_lt (by omega)]
      rw [e, List.getElem?_eq_getElem (by omega)]
      simp
      congr 1; omega
theorem turnL_sum (xs : List Int) (a : Nat) (h : a < xs.length) : (turnL xs a xs.length).sum = xs.sum := by
  have e := congrArg List.sum (List.take_append_drop a xs)
  rw [List.sum_append] at e
  rw [turnL_all _ _ h, List.sum_append]; omega
theorem backL_sum (xs : List Int) : (backL xs xs.length).sum = xs.sum := by
  rw [backL_all]; exact List.sum_reverse xs
end Sg
