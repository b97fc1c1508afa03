/- Several texts in one: PNum, PProf, PLimit, PBrake, PTrain, PLay, PMot, PMot2, PMot3, PUni, PPas, PRea. -/
import Derived.Sort.Defs
namespace Sg

def divE (a b : Int) : Int := if b = 0 then 1 else if a = -9223372036854775808 ∧ b = -1 then 17 else 0
def floV (a b : Int) : Int := if divE a b = 0 then a.fdiv b else 0
def ceiV (a b : Int) : Int := if divE a b = 0 then (if a.tmod b = 0 then a.fdiv b else a.fdiv b + 1) else 0
def clampV (n lo hi : Int) : Int := max lo (min n hi)

theorem divE_zero {a b : Int} (h : divE a b = 0) : b ≠ 0 ∧ ¬ (a = -9223372036854775808 ∧ b = -1) := by
  unfold divE at h
  by_cases hb : b = 0
  · simp [hb] at h
  · refine ⟨hb, fun h2 => ?_⟩
    rw [if_neg hb, if_pos h2] at h
    omega

theorem quo_bd (a b : Int) (ha : -9223372036854775808 ≤ a) (ha2 : a ≤ 9223372036854775807) (hb : b ≠ 0) (h : ¬ (a = -9223372036854775808 ∧ b = -1)) : -9223372036854775808 ≤ a.tdiv b ∧ a.tdiv b ≤ 9223372036854775807 := by
  have h1 := Int.natAbs_tdiv a b
  have h2 : a.natAbs.div b.natAbs ≤ a.natAbs := Nat.div_le_self _ _
  by_cases e : a = -9223372036854775808
  · have hb1 : b ≠ -1 := fun hb1 => h ⟨e, hb1⟩
    by_cases hb2 : b = 1
    · subst hb2; simp; omega
    · have h3 : a.natAbs.div b.natAbs ≤ a.natAbs / 2 := Nat.div_le_div_left (by omega) (by omega)
      omega
  · omega

theorem dvd_tmod {a b : Int} : b ∣ a ↔ a.tmod b = 0 := Int.dvd_iff_tmod_eq_zero

theorem big_of_rest {a b : Int} (hb : b ≠ 0) (hm : a.tmod b ≠ 0) : b ≤ -2 ∨ 2 ≤ b := by
  by_cases h1 : b = 1
  · subst h1; simp at hm
  · by_cases h2 : b = -1
    · subst h2; exfalso; apply hm; rw [← Int.dvd_iff_tmod_eq_zero]; exact ⟨-a, by omega⟩
    · omega

theorem quo_bd2 (a b : Int) (ha : -9223372036854775808 ≤ a) (ha2 : a ≤ 9223372036854775807) (hb : b ≠ 0) (hm : a.tmod b ≠ 0) : -4611686018427387904 ≤ a.tdiv b ∧ a.tdiv b ≤ 4611686018427387904 := by
  have h1 := Int.natAbs_tdiv a b
  have h3 : a.natAbs.div b.natAbs ≤ a.natAbs / 2 := Nat.div_le_div_left (by have := big_of_rest hb hm; omega) (by omega)
  omega

theorem floV_zero {a b : Int} (h : divE a b = 0) (hm : a.tmod b = 0) : floV a b = a.tdiv b := by
  rw [floV, if_pos h, Int.fdiv_eq_tdiv, if_pos (dvd_tmod.2 hm)]; omega
theorem floV_down {a b : Int} (h : divE a b = 0) (hm : a.tmod b ≠ 0) (hs : (a < 0 ∧ 0 ≤ b) ∨ (0 ≤ a ∧ b < 0)) : floV a b = a.tdiv b - 1 := by
  have hb := (divE_zero h).1
  rw [floV, if_pos h, Int.fdiv_eq_tdiv, if_neg (fun hd => hm (dvd_tmod.1 hd))]
  rcases hs with ⟨h1, h2⟩ | ⟨h1, h2⟩
  · rw [if_neg (by omega), if_pos h2, Int.sign_eq_one_of_pos (by omega)]
  · rw [if_pos h1, if_neg (by omega)]
theorem floV_same {a b : Int} (h : divE a b = 0) (hm : a.tmod b ≠ 0) (hs : (a < 0 ∧ b < 0) ∨ (0 ≤ a ∧ 0 ≤ b)) : floV a b = a.tdiv b := by
  rw [floV, if_pos h, Int.fdiv_eq_tdiv, if_neg (fun hd => hm (dvd_tmod.1 hd))]
  rcases hs with ⟨h1, h2⟩ | ⟨h1, h2⟩
  · rw [if_neg (by omega), if_neg (by omega), Int.sign_eq_neg_one_of_neg h2]; omega
  · rw [if_pos h1, if_pos h2]; omega
theorem floV_bad {a b : Int} (h : divE a b ≠ 0) : floV a b = 0 := by rw [floV, if_neg h]
theorem ceiV_bad {a b : Int} (h : divE a b ≠ 0) : ceiV a b = 0 := by rw [ceiV, if_neg h]
theorem ceiV_zero {a b : Int} (h : divE a b = 0) (hm : a.tmod b = 0) : ceiV a b = a.tdiv b := by
  rw [ceiV, if_pos h, if_pos hm, ← floV_zero h hm, floV, if_pos h]
theorem ceiV_up {a b : Int} (h : divE a b = 0) (hm : a.tmod b ≠ 0) : ceiV a b = floV a b + 1 := by
  rw [ceiV, if_pos h, if_neg hm, floV, if_pos h]

theorem floV_pos {a b : Int} (hb : 0 < b) : floV a b = a / b := by
  have h : divE a b = 0 := by unfold divE; rw [if_neg (by omega), if_neg (by omega)]
  rw [floV, if_pos h, Int.fdiv_eq_ediv_of_nonneg _ (by omega)]
theorem divE_pos {a b : Int} (hb : 0 < b) : divE a b = 0 := by unfold divE; rw [if_neg (by omega), if_neg (by omega)]

theorem clampV_le {n lo hi : Int} (h : lo ≤ hi) : lo ≤ clampV n lo hi ∧ clampV n lo hi ≤ hi := by unfold clampV; omega
def IsRoot (n r : Int) : Prop := 0 ≤ r ∧ r ≤ 3037000499 ∧ (n < 1 → r = 0) ∧ (1 ≤ n → r * r ≤ n ∧ n < (r + 1) * (r + 1))
theorem sq_bd {n c : Int} (hn : n ≤ 9223372036854775807) (hc : 0 ≤ c) (h : c * c ≤ n) : c ≤ 3037000499 := by
  by_cases h2 : c ≤ 3037000499
  · exact h2
  · have h3 : 3037000500 ≤ c := by omega
    have := Int.mul_le_mul h3 h3 (by omega) (by omega)
    omega
theorem sq_lt (c : Int) (hc : 0 ≤ c) : c * c < (c + 1) * (c + 1) := by grind
theorem le_quo {n c : Int} (hc : 0 < c) : c ≤ n / c ↔ c * c ≤ n := Int.le_ediv_iff_mul_le hc
theorem flo_rest {a b : Int} (h : divE a b = 0) : (0 < b → 0 ≤ a - floV a b * b ∧ a - floV a b * b < b) ∧ (b < 0 → b < a - floV a b * b ∧ a - floV a b * b ≤ 0) ∧ (a - floV a b * b = 0 ↔ a.tmod b = 0) := by
  have hb := (divE_zero h).1
  have e : a - floV a b * b = a.fmod b := by rw [Int.fmod_def, floV, if_pos h, Int.mul_comm]
  rw [e]
  refine ⟨fun hp => ⟨Int.fmod_nonneg_of_pos _ hp, Int.fmod_lt_of_pos _ hp⟩, fun hn => ?_, ?_⟩
  · have h1 := Int.mul_fdiv_add_fmod a b
    have h2 : (-a).fmod (-b) = - a.fmod b := by simp
    have h3 := Int.fmod_nonneg_of_pos (-a) (show 0 < -b by omega)
    have h4 := Int.fmod_lt_of_pos (-a) (show 0 < -b by omega)
    omega
  · rw [← Int.dvd_iff_fmod_eq_zero, Int.dvd_iff_tmod_eq_zero]
theorem root_eq {n r s : Int} (h : IsRoot n r) (hn : 1 ≤ n) (hs : 0 ≤ s) (h1 : s * s ≤ n) (h2 : n < (s + 1) * (s + 1)) : r = s := by
  obtain ⟨h0, _, _, h3⟩ := h
  obtain ⟨h4, h5⟩ := h3 hn
  by_cases hlt : r < s
  · have := Int.mul_le_mul (show r + 1 ≤ s by omega) (show r + 1 ≤ s by omega) (by omega) (by omega)
    omega
  · by_cases hgt : s < r
    · have := Int.mul_le_mul (show s + 1 ≤ r by omega) (show s + 1 ≤ r by omega) (by omega) (by omega)
      omega
    · omega
theorem floV_bd {a b : Int} (ha : -9223372036854775808 ≤ a) (ha2 : a ≤ 9223372036854775807) (h : divE a b = 0) : -9223372036854775808 ≤ floV a b ∧ floV a b ≤ 9223372036854775807 ∧ -9223372036854775808 ≤ ceiV a b ∧ ceiV a b ≤ 9223372036854775807 := by
  obtain ⟨hb, h17⟩ := divE_zero h
  by_cases hm : a.tmod b = 0
  · rw [floV_zero h hm, ceiV_zero h hm]
    have := quo_bd a b ha ha2 hb h17
    omega
  · have hq := quo_bd2 a b ha ha2 hb hm
    have hc := ceiV_up h hm
    by_cases hs : (a < 0 ∧ 0 ≤ b) ∨ (0 ≤ a ∧ b < 0)
    · have := floV_down h hm hs; omega
    · have := floV_same h hm (by omega); omega
def backL (xs : List Int) (k : Nat) : List Int := (List.range k).map fun i => xs.getD (xs.length - 1 - i) 0
def turnL (xs : List Int) (a k : Nat) : List Int := (List.range k).map fun i => xs.getD ((i + a) % xs.length) 0
theorem backL_len (xs : List Int) (k : Nat) : (backL xs k).length = k := by simp [backL]
theorem turnL_len (xs : List Int) (a k : Nat) : (turnL xs a k).length = k := by simp [turnL]
theorem backL_succ (xs : List Int) (k : Nat) : backL xs (k + 1) = backL xs k ++ [xs.getD (xs.length - 1 - k) 0] := by simp [backL, List.range_succ]
theorem turnL_succ (xs : List Int) (a k : Nat) : turnL xs a (k + 1) = turnL xs a k ++ [xs.getD ((k + a) % xs.length) 0] := by simp [turnL, List.range_succ]
theorem backL_all (xs : List Int) : backL xs xs.length = xs.reverse := by
  apply List.ext_getElem
  · simp [backL_len]
  · intro i h1 h2
    simp [backL] at h1 ⊢
    rw [List.getElem?_eq_getElem (by omega)]; rfl
theorem turnL_all (xs : List Int) (a : Nat) (h : a < xs.length) : turnL xs a xs.length = xs.drop a ++ xs.take a := by
  apply List.ext_getElem
  · simp [turnL_len]; omega
  · intro i h1 h2
    simp [turnL] at h1 ⊢
    by_cases hi : i + a < xs.length
    · rw [List.getElem_append_left (by simp; omega), Nat.mod_eq_of_lt hi, List.getElem?_eq_getElem hi, List.getElem_drop]
      simp [Nat.add_comm]
    · rw [List.getElem_append_right (by simp; omega), List.getElem_take]
      have e : (i + a) % xs.length = i + a - xs.length := by rw [Nat.mod_eq_sub_mod (by omega), Nat.mod_eq_of_lt (by omega)]
      rw [e, List.getElem?_eq_getElem (by omega)]
      simp
      congr 1; omega
theorem turnL_sum (xs : List Int) (a : Nat) (h : a < xs.length) : (turnL xs a xs.length).sum = xs.sum := by
  have e := congrArg List.sum (List.take_append_drop a xs)
  rw [List.sum_append] at e
  rw [turnL_all _ _ h, List.sum_append]; omega
theorem backL_sum (xs : List Int) : (backL xs xs.length).sum = xs.sum := by
  rw [backL_all]; exact List.sum_reverse xs
end Sg

set_option linter.unusedVariables false
set_option linter.unusedSimpArgs false
namespace Sg

/-- A segment. -/
structure Sgm where
  from_ : Int
  to_ : Int
  grade : Int
  speed : Int
def Sgm.z : Sgm := ⟨0, 0, 0, 0⟩
theorem Sgm.eq {a b : Sgm} (h1 : a.from_ = b.from_) (h2 : a.to_ = b.to_) (h3 : a.grade = b.grade) (h4 : a.speed = b.speed) : a = b := by
  cases a; cases b; simp_all
def sgmB (a b : Sgm) : Bool := a.from_ == b.from_ && (a.to_ == b.to_ && (a.grade == b.grade && a.speed == b.speed))
theorem sgmB_true {a b : Sgm} : sgmB a b = true ↔ a = b := by
  unfold sgmB
  simp only [Bool.and_eq_true, beq_iff_eq]
  exact ⟨fun ⟨h1, h2, h3, h4⟩ => Sgm.eq h1 h2 h3 h4, fun h => by subst h; simp⟩
def SegOk (s : Sgm) : Prop := -1073741824 ≤ s.from_ ∧ s.from_ < s.to_ ∧ s.to_ ≤ 1073741824 ∧ -50 ≤ s.grade ∧ s.grade ≤ 50 ∧ 1 ≤ s.speed ∧ s.speed ≤ 10000
def LinkOk (p : List Sgm) (i : Nat) : Prop := i = 0 ∨ (p.getD i Sgm.z).from_ = (p.getD (i - 1) Sgm.z).to_
def ValidTo (p : List Sgm) (k : Nat) : Prop := ∀ i, i < k → SegOk (p.getD i Sgm.z) ∧ LinkOk p i
def Valid (p : List Sgm) : Prop := p.length ≤ 128 ∧ ValidTo p p.length
open Classical in
noncomputable def validB (p : List Sgm) : Bool := decide (Valid p)
theorem validB_true {p : List Sgm} : validB p = true ↔ Valid p := by simp [validB]
theorem validB_false {p : List Sgm} : validB p = false ↔ ¬ Valid p := by simp [validB]
theorem validTo_zero (p : List Sgm) : ValidTo p 0 := fun i h => absurd h (by omega)
theorem validTo_succ {p : List Sgm} {k : Nat} (h : ValidTo p k) (h1 : SegOk (p.getD k Sgm.z)) (h2 : LinkOk p k) : ValidTo p (k + 1) := fun i hi => by
  by_cases e : i = k
  · subst e; exact ⟨h1, h2⟩
  · exact h i (by omega)
theorem not_valid {p : List Sgm} {k : Nat} (hk : k < p.length) (h : ¬ (SegOk (p.getD k Sgm.z) ∧ LinkOk p k)) : ¬ Valid p := fun hv => h (hv.2 k hk)
theorem getD_of {p : List Sgm} {k : Nat} {s : Sgm} (h : p[k]? = some s) : p.getD k Sgm.z = s := by rw [List.getD_eq_getElem?_getD, h]; rfl

/-- The segment at a coordinate. -/
def hitB (x : Int) (s : Sgm) : Bool := decide (s.from_ ≤ x) && decide (x < s.to_)
open Classical in
noncomputable def atO (p : List Sgm) (x : Int) : Option Sgm := if validB p = true then p.find? (hitB x) else none
noncomputable def atS (p : List Sgm) (x : Int) : Sgm := (atO p x).getD Sgm.z
noncomputable def atB (p : List Sgm) (x : Int) : Bool := (atO p x).isSome
theorem atO_hit {p : List Sgm} {x : Int} {k : Nat} {s : Sgm} (hv : validB p = true) (hk : p[k]? = some s) (hn : ∀ j t, j < k → p[j]? = some t → hitB x t = false) (h : hitB x s = true) : atO p x = some s := by
  rw [atO, if_pos hv, List.find?_eq_some_iff_append]
  refine ⟨h, p.take k, p.drop (k + 1), ?_, fun t ht => ?_⟩
  · have hk' := List.getElem?_eq_some_iff.1 hk
    obtain ⟨hl, rfl⟩ := hk'
    rw [List.getElem_cons_drop hl, List.take_append_drop]
  · obtain ⟨j, hj, rfl⟩ := List.getElem_of_mem ht
    have hj' : j < k := by simp at hj; omega
    rw [List.getElem_take]
    simp [hn j _ hj' (List.getElem?_eq_getElem (by simp at hj; omega))]
theorem atO_none {p : List Sgm} {x : Int} (h : validB p = false ∨ ∀ (j : Nat) (t : Sgm), p[j]? = some t → hitB x t = false) : atO p x = none := by
  rw [atO]
  split
  · rename_i hv
    rcases h with h | h
    · rw [h] at hv; cases hv
    · rw [List.find?_eq_none]
      intro t ht
      obtain ⟨j, hj, rfl⟩ := List.getElem_of_mem ht
      simp [h j _ (List.getElem?_eq_getElem hj)]
  · rfl

/-- The least of several numbers, 0 if there is none. -/
def leastL : List Int → Int
  | [] => 0
  | a :: r => r.foldl min a
theorem leastL_snoc (l : List Int) (v : Int) : leastL (l ++ [v]) = if l = [] then v else min (leastL l) v := by
  cases l with
  | nil => rfl
  | cons a r => simp [leastL]
def touchB (f t : Int) (s : Sgm) : Bool := decide (s.from_ ≤ t) && decide (f ≤ s.to_)
noncomputable def touL (p : List Sgm) (f t : Int) : List Sgm := if validB p = true then p.filter (touchB f t) else []
noncomputable def slowV (p : List Sgm) (f t : Int) : Int := leastL ((touL p f t).map Sgm.speed)
noncomputable def steepV (p : List Sgm) (f t : Int) : Int := leastL ((touL p f t).map Sgm.grade)
theorem filter_take {p : List Sgm} {g : Sgm → Bool} {k : Nat} {s : Sgm} (h : p[k]? = some s) : (p.take (k + 1)).filter g = (p.take k).filter g ++ (if g s = true then [s] else []) := by
  obtain ⟨hl, rfl⟩ := List.getElem?_eq_some_iff.1 h
  rw [List.take_succ_eq_append_getElem hl, List.filter_append]
  congr 1
  by_cases hg : g p[k] = true <;> simp [hg]
/-- The part of a segment in a range. -/
def partS (f t : Int) (s : Sgm) : Sgm := ⟨max s.from_ f, min s.to_ t, s.grade, s.speed⟩
def partB (f t : Int) (s : Sgm) : Bool := decide ((partS f t s).from_ < (partS f t s).to_)
def cutF (f t : Int) (p : List Sgm) : List Sgm := (p.filter (partB f t)).map (partS f t)
noncomputable def cutL (p : List Sgm) (f t : Int) : List Sgm := if validB p = true then cutF f t p else []
theorem cutF_take {p : List Sgm} {f t : Int} {k : Nat} {s : Sgm} (h : p[k]? = some s) : cutF f t (p.take (k + 1)) = cutF f t (p.take k) ++ (if partB f t s = true then [partS f t s] else []) := by
  unfold cutF
  rw [filter_take h, List.map_append]
  congr 1
  split <;> simp
theorem cutF_len (f t : Int) (p : List Sgm) : (cutF f t p).length ≤ p.length := by
  unfold cutF; rw [List.length_map]; exact List.length_filter_le _ _
theorem touL_len (p : List Sgm) (f t : Int) : (touL p f t).length ≤ p.length := by
  unfold touL; split
  · exact List.length_filter_le _ _
  · simp
end Sg

set_option linter.unusedVariables false
set_option linter.unusedSimpArgs false
namespace Sg

/-- Segments that follow one another from a to b. -/
def Ch : Int → List Sgm → Int → Prop
  | a, [], b => a = b
  | a, s :: r, b => s.from_ = a ∧ SegOk s ∧ Ch s.to_ r b
theorem Ch.le : ∀ {p : List Sgm} {a b : Int}, Ch a p b → a ≤ b
  | [], a, b, h => by have : a = b := h; omega
  | s :: r, a, b, ⟨h1, h2, h3⟩ => by have := Ch.le h3; obtain ⟨_, h4, _⟩ := h2; omega
theorem Ch.append : ∀ {p q : List Sgm} {a b c : Int}, Ch a p b → Ch b q c → Ch a (p ++ q) c
  | [], q, a, b, c, h, g => by have : a = b := h; subst this; exact g
  | s :: r, q, a, b, c, ⟨h1, h2, h3⟩, g => ⟨h1, h2, Ch.append h3 g⟩
theorem Ch.ok : ∀ {p : List Sgm} {a b : Int}, Ch a p b → ∀ s ∈ p, SegOk s
  | [], _, _, _, s, h => by cases h
  | t :: r, a, b, ⟨_, h2, h3⟩, s, h => by
    rcases List.mem_cons.1 h with rfl | h
    · exact h2
    · exact Ch.ok h3 s h
theorem Ch.validTo : ∀ {p : List Sgm} {a b : Int}, Ch a p b → ∀ i, i < p.length → SegOk (p.getD i Sgm.z) ∧ (i ≠ 0 → (p.getD i Sgm.z).from_ = (p.getD (i - 1) Sgm.z).to_) ∧ (i = 0 → (p.getD i Sgm.z).from_ = a)
  | [], _, _, _, i, h => by simp at h
  | s :: r, a, b, ⟨h1, h2, h3⟩, 0, _ => ⟨by simpa using h2, fun h => absurd rfl h, fun _ => by simpa using h1⟩
  | s :: r, a, b, ⟨h1, h2, h3⟩, i + 1, h => by
    have ih := Ch.validTo h3 i (by simpa using h)
    refine ⟨by simpa using ih.1, fun _ => ?_, fun h => by omega⟩
    by_cases hi : i = 0
    · subst hi; have := ih.2.2 rfl; simpa using this
    · have := ih.2.1 hi
      obtain ⟨j, rfl⟩ : ∃ j, i = j + 1 := ⟨i - 1, by omega⟩
      simpa using this
theorem Ch.of_valid : ∀ {p : List Sgm} {a : Int}, (∀ i, i < p.length → SegOk (p.getD i Sgm.z) ∧ (i ≠ 0 → (p.getD i Sgm.z).from_ = (p.getD (i - 1) Sgm.z).to_) ∧ (i = 0 → (p.getD i Sgm.z).from_ = a)) → ∃ b, Ch a p b
  | [], a, _ => ⟨a, rfl⟩
  | s :: r, a, h => by
    have h0 := h 0 (by simp)
    obtain ⟨b, hb⟩ := Ch.of_valid (p := r) (a := s.to_) (fun i hi => by
      have h1 := h (i + 1) (by simpa using hi)
      refine ⟨by simpa using h1.1, fun hn => ?_, fun he => ?_⟩
      · have := h1.2.1 (by omega)
        obtain ⟨j, rfl⟩ : ∃ j, i = j + 1 := ⟨i - 1, by omega⟩
        simpa using this
      · subst he; have := h1.2.1 (by omega); simpa using this)
    exact ⟨b, by simpa using h0.2.2 rfl, by simpa using h0.1, hb⟩
def headF (p : List Sgm) : Int := (p.getD 0 Sgm.z).from_
theorem ch_of {p : List Sgm} (h : Valid p) : ∃ b, Ch (headF p) p b :=
  Ch.of_valid fun i hi => ⟨(h.2 i hi).1, fun hn => (h.2 i hi).2.resolve_left hn, fun he => by subst he; rfl⟩
theorem valid_of {p : List Sgm} {a b : Int} (h : Ch a p b) (hl : p.length ≤ 128) : Valid p :=
  ⟨hl, fun i hi => ⟨(h.validTo i hi).1, by
    by_cases e : i = 0
    · exact .inl e
    · exact .inr ((h.validTo i hi).2.1 e)⟩⟩

/-- What Limit makes of one segment. -/
def lenB (s : Sgm) : Bool := decide (s.from_ < s.to_)
def befS (f t : Int) (s : Sgm) : Sgm := ⟨s.from_, max s.from_ f, s.grade, s.speed⟩
def midS (f t v : Int) (s : Sgm) : Sgm := ⟨max s.from_ f, min s.to_ t, s.grade, min s.speed v⟩
def aftS (f t : Int) (s : Sgm) : Sgm := ⟨min s.to_ t, s.to_, s.grade, s.speed⟩
def limS (f t v : Int) (s : Sgm) : List Sgm := if partB f t s = true then [befS f t s, midS f t v s, aftS f t s].filter lenB else [s]
def limF (f t v : Int) (p : List Sgm) : List Sgm := p.flatMap (limS f t v)
noncomputable def limL (p : List Sgm) (f t v : Int) : List Sgm := if validB p = true ∧ 1 ≤ v then (if (limF f t v p).length ≤ 128 then limF f t v p else []) else []
theorem partB_iff {f t : Int} {s : Sgm} : partB f t s = true ↔ max s.from_ f < min s.to_ t := decide_eq_true_iff
theorem lb1 {f t : Int} {s : Sgm} : lenB (befS f t s) = true ↔ s.from_ < max s.from_ f := decide_eq_true_iff
theorem lb2 {f t v : Int} {s : Sgm} : lenB (midS f t v s) = true ↔ max s.from_ f < min s.to_ t := decide_eq_true_iff
theorem lb3 {f t : Int} {s : Sgm} : lenB (aftS f t s) = true ↔ min s.to_ t < s.to_ := decide_eq_true_iff
theorem hb0 {y : Int} {s : Sgm} : hitB y s = true ↔ s.from_ ≤ y ∧ y < s.to_ := by unfold hitB; rw [Bool.and_eq_true, decide_eq_true_iff, decide_eq_true_iff]
theorem bf {b : Bool} : b = false ↔ ¬ b = true := by cases b <;> simp
theorem limS_ch {f t v : Int} {s : Sgm} (h : SegOk s) (hv : 1 ≤ v) : Ch s.from_ (limS f t v s) s.to_ := by
  unfold limS
  obtain ⟨g1, g2, g3, g4, g5, g6, g7⟩ := h
  split
  · rename_i hp
    rw [partB_iff] at hp
    have e2 : lenB (midS f t v s) = true := lb2.2 hp
    have om : SegOk (midS f t v s) := ⟨show _ ≤ max s.from_ f by omega, hp, show min s.to_ t ≤ _ by omega, g4, g5, show 1 ≤ min s.speed v by omega, show min s.speed v ≤ _ by omega⟩
    by_cases c1 : lenB (befS f t s) = true
    · have c1' := lb1.1 c1
      have ob : SegOk (befS f t s) := ⟨g1, c1', show max s.from_ f ≤ _ by omega, g4, g5, g6, g7⟩
      by_cases c3 : lenB (aftS f t s) = true
      · have c3' := lb3.1 c3
        have oa : SegOk (aftS f t s) := ⟨show _ ≤ min s.to_ t by omega, c3', g3, g4, g5, g6, g7⟩
        simp only [List.filter_cons, c1, e2, c3, if_true, List.filter_nil]
        exact ⟨rfl, ob, rfl, om, rfl, oa, rfl⟩
      · have c3' : lenB (aftS f t s) = false := bf.2 c3
        rw [lb3] at c3
        simp only [List.filter_cons, c1, e2, c3', if_true, List.filter_nil]
        exact ⟨rfl, ob, rfl, om, show min s.to_ t = s.to_ by omega⟩
    · have c1' : lenB (befS f t s) = false := bf.2 c1
      rw [lb1] at c1
      by_cases c3 : lenB (aftS f t s) = true
      · have c3' := lb3.1 c3
        have oa : SegOk (aftS f t s) := ⟨show _ ≤ min s.to_ t by omega, c3', g3, g4, g5, g6, g7⟩
        simp only [List.filter_cons, c1', e2, c3, if_true, List.filter_nil]
        exact ⟨show max s.from_ f = s.from_ by omega, om, rfl, oa, rfl⟩
      · have c3' : lenB (aftS f t s) = false := bf.2 c3
        rw [lb3] at c3
        simp only [List.filter_cons, c1', e2, c3', if_true, List.filter_nil]
        exact ⟨show max s.from_ f = s.from_ by omega, om, show min s.to_ t = s.to_ by omega⟩
  · exact ⟨rfl, ⟨g1, g2, g3, g4, g5, g6, g7⟩, rfl⟩
theorem limF_ch {f t v : Int} (hv : 1 ≤ v) : ∀ {p : List Sgm} {a b : Int}, Ch a p b → Ch a (limF f t v p) b
  | [], _, _, h => h
  | s :: r, a, b, ⟨h1, h2, h3⟩ => by
    subst h1
    exact (limS_ch h2 hv).append (limF_ch hv h3)
theorem limS_len (f t v : Int) (s : Sgm) : (limS f t v s).length ≤ 3 := by
  unfold limS; split
  · have := List.length_filter_le lenB [befS f t s, midS f t v s, aftS f t s]; simpa using this
  · simp
theorem limS_len2 (f t v : Int) (s : Sgm) : (limS f t v s).length ≤ 1 + (if s.from_ < f ∧ f < s.to_ then 1 else 0) + (if s.from_ < t ∧ t < s.to_ then 1 else 0) := by
  unfold limS; split
  · rename_i hp
    rw [partB_iff] at hp
    have e2 : lenB (midS f t v s) = true := lb2.2 hp
    have n1 : [befS f t s].filter lenB = [] ∨ (s.from_ < f ∧ f < s.to_) := by
      by_cases c : lenB (befS f t s) = true
      · have := lb1.1 c; right; omega
      · left; simp [bf.2 c]
    have n3 : [aftS f t s].filter lenB = [] ∨ (s.from_ < t ∧ t < s.to_) := by
      by_cases c : lenB (aftS f t s) = true
      · have := lb3.1 c; right; omega
      · left; simp [bf.2 c]
    have m1 := List.length_filter_le lenB [befS f t s]
    have m3 := List.length_filter_le lenB [aftS f t s]
    have e : [befS f t s, midS f t v s, aftS f t s].filter lenB = [befS f t s].filter lenB ++ ([midS f t v s].filter lenB ++ [aftS f t s].filter lenB) := by
      rw [← List.filter_append, ← List.filter_append]; rfl
    have m2 := List.length_filter_le lenB [midS f t v s]
    rw [e, List.length_append, List.length_append]
    simp only [List.length_cons, List.length_nil] at m1 m2 m3
    rcases n1 with n1 | n1 <;> rcases n3 with n3 | n3
    · rw [n1, n3]; simp only [List.length_nil]; omega
    · rw [n1, if_pos n3]; simp only [List.length_nil]; omega
    · rw [n3, if_pos n1]; simp only [List.length_nil]; omega
    · rw [if_pos n1, if_pos n3]; omega
  · simp only [List.length_cons, List.length_nil]; omega
theorem limF_len {f t v : Int} : ∀ {p : List Sgm} {a b : Int}, Ch a p b → (limF f t v p).length ≤ p.length + (if a < f then 1 else 0) + (if a < t then 1 else 0)
  | [], _, _, _ => by simp [limF]
  | s :: r, a, b, ⟨h1, h2, h3⟩ => by
    have ih := limF_len (f := f) (t := t) (v := v) h3
    have hs := limS_len2 f t v s
    have e : limF f t v (s :: r) = limS f t v s ++ limF f t v r := rfl
    obtain ⟨_, hlt, _⟩ := h2
    subst h1
    rw [e, List.length_append, List.length_cons]
    by_cases a1 : s.from_ < f <;> by_cases a2 : f < s.to_ <;> by_cases a3 : s.to_ < f <;> by_cases b1 : s.from_ < t <;> by_cases b2 : t < s.to_ <;> by_cases b3 : s.to_ < t <;> simp only [a1, a2, a3, b1, b2, b3, and_self, and_true, and_false, false_and, if_true, if_false] at ih hs ⊢ <;> omega
theorem limF_len3 (f t v : Int) (p : List Sgm) : (limF f t v p).length ≤ 3 * p.length := by
  induction p with
  | nil => simp [limF]
  | cons s r ih =>
    have e : limF f t v (s :: r) = limS f t v s ++ limF f t v r := rfl
    have := limS_len f t v s
    rw [e, List.length_append, List.length_cons]; omega
theorem limF_take {f t v : Int} {p : List Sgm} {k : Nat} {s : Sgm} (h : p[k]? = some s) : limF f t v (p.take (k + 1)) = limF f t v (p.take k) ++ limS f t v s := by
  obtain ⟨hl, rfl⟩ := List.getElem?_eq_some_iff.1 h
  rw [List.take_succ_eq_append_getElem hl]
  unfold limF
  rw [List.flatMap_append]
  simp
theorem limS_idem {f t v : Int} {s : Sgm} (h : s.from_ < s.to_) : ∀ u ∈ limS f t v s, limS f t v u = [u] := by
  intro u hu
  have part_no : ∀ u : Sgm, ¬ (max u.from_ f < min u.to_ t) → limS f t v u = [u] := fun u hn => by
    unfold limS; rw [if_neg (by rw [partB_iff]; exact hn)]
  unfold limS at hu
  split at hu
  · rename_i hp
    rw [partB_iff] at hp
    rw [List.mem_filter] at hu
    obtain ⟨hu, hl⟩ := hu
    simp only [List.mem_cons, List.not_mem_nil, or_false] at hu
    rcases hu with rfl | rfl | rfl
    · refine part_no _ ?_; have := lb1.1 hl; show ¬ (max s.from_ f < min (max s.from_ f) t); omega
    · have hm : max (midS f t v s).from_ f < min (midS f t v s).to_ t := by simp [midS]; omega
      unfold limS
      rw [if_pos (by rw [partB_iff]; exact hm)]
      have e1 : lenB (befS f t (midS f t v s)) = false := by rw [bf, lb1]; show ¬ (max s.from_ f < max (max s.from_ f) f); omega
      have e2 : lenB (midS f t v (midS f t v s)) = true := by rw [lb2]; exact hm
      have e3 : lenB (aftS f t (midS f t v s)) = false := by rw [bf, lb3]; show ¬ (min (min s.to_ t) t < min s.to_ t); omega
      simp only [List.filter_cons, e1, e2, e3, if_true, List.filter_nil]
      exact congrArg (fun x => [x]) (Sgm.eq (show max (max s.from_ f) f = max s.from_ f by omega) (show min (min s.to_ t) t = min s.to_ t by omega) rfl (show min (min s.speed v) v = min s.speed v by omega))
    · refine part_no _ ?_; have := lb3.1 hl; show ¬ (max (min s.to_ t) f < min s.to_ t); omega
  · simp at hu; subst hu; rename_i hp; exact part_no _ (by rw [← partB_iff]; exact hp)
theorem limF_idem {f t v : Int} : ∀ {p : List Sgm}, (∀ s ∈ p, s.from_ < s.to_) → limF f t v (limF f t v p) = limF f t v p
  | [], _ => rfl
  | s :: r, h => by
    have e : limF f t v (s :: r) = limS f t v s ++ limF f t v r := rfl
    have hs : ∀ l : List Sgm, (∀ u ∈ l, limS f t v u = [u]) → limF f t v l = l := fun l => by
      induction l with
      | nil => intro _; rfl
      | cons u l ih =>
        intro hl
        have e2 : limF f t v (u :: l) = limS f t v u ++ limF f t v l := rfl
        rw [e2, hl u (by simp), ih (fun x hx => hl x (by simp [hx]))]; rfl
    have e3 : ∀ l m : List Sgm, limF f t v (l ++ m) = limF f t v l ++ limF f t v m := fun l m => by unfold limF; rw [List.flatMap_append]
    rw [e, e3, hs _ (limS_idem (h s (by simp))), limF_idem (fun u hu => h u (by simp [hu]))]
theorem valid_one {s : Sgm} (h : SegOk s) : validB [s] = true := validB_true.2 ⟨by simp, fun i hi => by
  have : i = 0 := by simp at hi; omega
  subst this; exact ⟨h, .inl rfl⟩⟩
theorem cut_one {s : Sgm} (h : SegOk s) (f t : Int) : cutL [s] f t = if partB f t s = true then [partS f t s] else [] := by
  rw [cutL, if_pos (valid_one h)]; unfold cutF; rw [List.filter_cons]; split <;> rfl
theorem cut_before {s : Sgm} (h : SegOk s) {f t : Int} (hp : partB f t s = true) : cutL [s] (-1073741824) f = [befS f t s].filter lenB := by
  rw [cut_one h, List.filter_cons, List.filter_nil]
  rw [partB_iff] at hp
  obtain ⟨h1, h2, h3, _⟩ := h
  by_cases c : s.from_ < f
  · rw [if_pos (partB_iff.2 (by omega)), if_pos (lb1.2 (by omega))]
    exact congrArg (fun x => [x]) (Sgm.eq (show max s.from_ (-1073741824) = s.from_ by omega) (show min s.to_ f = max s.from_ f by omega) rfl rfl)
  · rw [if_neg (fun k => by rw [partB_iff] at k; omega), if_neg (fun k => by rw [lb1] at k; omega)]
theorem cut_after {s : Sgm} (h : SegOk s) {f t : Int} (hp : partB f t s = true) : cutL [s] t 1073741824 = [aftS f t s].filter lenB := by
  rw [cut_one h, List.filter_cons, List.filter_nil]
  rw [partB_iff] at hp
  obtain ⟨h1, h2, h3, _⟩ := h
  by_cases c : t < s.to_
  · rw [if_pos (partB_iff.2 (by omega)), if_pos (lb3.2 (by omega))]
    exact congrArg (fun x => [x]) (Sgm.eq (show max s.from_ t = min s.to_ t by omega) (show min s.to_ 1073741824 = s.to_ by omega) rfl rfl)
  · rw [if_neg (fun k => by rw [partB_iff] at k; omega), if_neg (fun k => by rw [lb3] at k; omega)]
theorem lim_three {s : Sgm} {f t v : Int} (hp : partB f t s = true) : limS f t v s = [befS f t s].filter lenB ++ ([midS f t v s] ++ [aftS f t s].filter lenB) := by
  rw [limS, if_pos hp]
  have e2 : lenB (midS f t v s) = true := lb2.2 (partB_iff.1 hp)
  have e : [midS f t v s] = [midS f t v s].filter lenB := by simp [e2]
  rw [e, ← List.filter_append, ← List.filter_append]; rfl
/-- What is found at a coordinate. -/
def lowP (f t v y : Int) (s u : Sgm) : Prop := u.grade = s.grade ∧ u.speed = if f ≤ y ∧ y < t then min s.speed v else s.speed
theorem limS_at {f t v y : Int} {s : Sgm} (h : s.from_ < s.to_) : if hitB y s = true then ∃ u, (limS f t v s).find? (hitB y) = some u ∧ lowP f t v y s u else (limS f t v s).find? (hitB y) = none := by
  unfold limS
  by_cases hp : partB f t s = true
  · rw [if_pos hp]
    rw [partB_iff] at hp
    have e2 : lenB (midS f t v s) = true := lb2.2 hp
    by_cases hy : hitB y s = true
    · rw [if_pos hy]
      have hy' := hb0.1 hy
      by_cases c1 : y < f
      · refine ⟨befS f t s, ?_, ?_⟩
        · have e1 : lenB (befS f t s) = true := lb1.2 (by omega)
          have e4 : hitB y (befS f t s) = true := hb0.2 ⟨hy'.1, show y < max s.from_ f by omega⟩
          simp only [List.filter_cons, e1, if_true, List.find?_cons, e4]
        · refine ⟨rfl, ?_⟩; rw [if_neg (by omega)]; rfl
      · by_cases c2 : y < t
        · refine ⟨midS f t v s, ?_, ?_⟩
          · have e4 : hitB y (befS f t s) = false := by rw [bf, hb0]; show ¬ (s.from_ ≤ y ∧ y < max s.from_ f); omega
            have e5 : hitB y (midS f t v s) = true := hb0.2 ⟨show max s.from_ f ≤ y by omega, show y < min s.to_ t by omega⟩
            simp only [List.filter_cons, e2, if_true]
            split <;> simp only [List.find?_cons, e4, e5]
          · refine ⟨rfl, ?_⟩; rw [if_pos (by omega)]; rfl
        · refine ⟨aftS f t s, ?_, ?_⟩
          · have e4 : hitB y (befS f t s) = false := by rw [bf, hb0]; show ¬ (s.from_ ≤ y ∧ y < max s.from_ f); omega
            have e5 : hitB y (midS f t v s) = false := by rw [bf, hb0]; show ¬ (max s.from_ f ≤ y ∧ y < min s.to_ t); omega
            have e6 : hitB y (aftS f t s) = true := hb0.2 ⟨show min s.to_ t ≤ y by omega, hy'.2⟩
            have e3 : lenB (aftS f t s) = true := lb3.2 (by omega)
            simp only [List.filter_cons, e2, e3, if_true]
            split <;> simp only [List.find?_cons, e4, e5, e6]
          · refine ⟨rfl, ?_⟩; rw [if_neg (by omega)]; rfl
    · rw [if_neg hy]
      have hy' : ¬ (s.from_ ≤ y ∧ y < s.to_) := fun h => hy (hb0.2 h)
      rw [List.find?_eq_none]
      intro u hu
      rw [List.mem_filter] at hu
      obtain ⟨hu, _⟩ := hu
      simp only [List.mem_cons, List.not_mem_nil, or_false] at hu
      rcases hu with rfl | rfl | rfl
      · rw [hb0]; show ¬ (s.from_ ≤ y ∧ y < max s.from_ f); omega
      · rw [hb0]; show ¬ (max s.from_ f ≤ y ∧ y < min s.to_ t); omega
      · rw [hb0]; show ¬ (min s.to_ t ≤ y ∧ y < s.to_); omega
  · rw [if_neg hp]
    rw [partB_iff] at hp
    by_cases hy : hitB y s = true
    · rw [if_pos hy]
      have hy' := hb0.1 hy
      exact ⟨s, by simp [List.find?_cons, hy], rfl, by rw [if_neg (by omega)]⟩
    · rw [if_neg hy]
      have hy' : hitB y s = false := by simpa using hy
      simp [List.find?_cons, hy']
theorem limF_at {f t v y : Int} : ∀ {p : List Sgm}, (∀ s ∈ p, s.from_ < s.to_) → (p.find? (hitB y) = none ∧ (limF f t v p).find? (hitB y) = none) ∨ ∃ s u, p.find? (hitB y) = some s ∧ (limF f t v p).find? (hitB y) = some u ∧ lowP f t v y s u
  | [], _ => .inl ⟨rfl, rfl⟩
  | s :: r, h => by
    have e : limF f t v (s :: r) = limS f t v s ++ limF f t v r := rfl
    have hs := limS_at (f := f) (t := t) (v := v) (y := y) (h s (by simp))
    have ih := limF_at (f := f) (t := t) (v := v) (y := y) (p := r) (fun u hu => h u (by simp [hu]))
    rw [e, List.find?_append, List.find?_cons]
    by_cases hy : hitB y s = true
    · rw [if_pos hy] at hs
      obtain ⟨u, h1, h2⟩ := hs
      rw [hy, h1]
      exact .inr ⟨s, u, rfl, rfl, h2⟩
    · rw [if_neg hy] at hs
      have hy' : hitB y s = false := by simpa using hy
      rw [hy', hs]
      simpa using ih
end Sg

set_option linter.unusedVariables false
set_option linter.unusedSimpArgs false
namespace Sg

def wtV (delay : Int) : Int := clampV delay 0 10
def stV (v : Int) : Int := min v 20000
def nV (v dec : Int) : Int := (stV v - 1) / dec
def triV (n : Int) : Int := n * (n + 1) / 2
def effV (dec grade : Int) : Int := max (clampV dec 0 200 + (981 * clampV grade (-1000) 1000) / 1000) 0
def dstV (v dec delay : Int) : Int := if v ≤ 0 then 0 else if dec < 1 then 1073741824 else wtV delay * stV v + nV v dec * stV v - dec * triV (nV v dec)
def timV (v dec delay : Int) : Int := if v ≤ 0 then 0 else if dec < 1 then 1073741824 else wtV delay + nV v dec + 1
def aftV (v dec delay cycles : Int) : Int :=
  if v ≤ 0 then 0 else if cycles ≤ wtV delay ∨ dec < 1 then stV v else if cycles - wtV delay > nV v dec then 0 else stV v - (cycles - wtV delay) * dec

theorem wtV_bd (d : Int) : 0 ≤ wtV d ∧ wtV d ≤ 10 := by unfold wtV clampV; omega
theorem wtV_mono {d e : Int} (h : d ≤ e) : wtV d ≤ wtV e := by unfold wtV clampV; omega
theorem stV_bd {v : Int} (h : 0 < v) : 1 ≤ stV v ∧ stV v ≤ 20000 := by unfold stV; omega
theorem stV_mono {v w : Int} (h : v ≤ w) : stV v ≤ stV w := by unfold stV; omega
theorem nV_bd {v dec : Int} (h : 0 < v) (hd : 1 ≤ dec) : 0 ≤ nV v dec ∧ nV v dec ≤ stV v - 1 := by
  have := stV_bd h
  exact ⟨Int.ediv_nonneg (by omega) (by omega), Int.ediv_le_self _ (by omega)⟩
theorem nV_mul {v dec : Int} (hd : 1 ≤ dec) : nV v dec * dec ≤ stV v - 1 ∧ stV v - 1 < (nV v dec + 1) * dec := by
  have h1 := Int.mul_ediv_add_emod (stV v - 1) dec
  have h2 := Int.emod_nonneg (stV v - 1) (show dec ≠ 0 by omega)
  have h3 := Int.emod_lt_of_pos (stV v - 1) (show 0 < dec by omega)
  have e : nV v dec * dec = dec * ((stV v - 1) / dec) := by rw [nV, Int.mul_comm]
  rw [Int.add_mul, e]; omega
theorem nV_lt {v dec k : Int} (hd : 1 ≤ dec) : nV v dec < k ↔ stV v ≤ k * dec := by
  have := @Int.ediv_lt_iff_lt_mul (stV v - 1) k dec (by omega)
  unfold nV; omega
theorem triV_two (n : Int) : 2 * triV n = n * (n + 1) := by
  unfold triV
  have : (n * (n + 1)) % 2 = 0 := by
    rcases Int.emod_two_eq n with h | h
    · rw [Int.mul_emod, h]; simp
    · rw [Int.mul_emod, Int.add_emod, h]; simp
  omega
theorem triV_succ (n : Int) : triV (n + 1) = triV n + n + 1 := by
  have h1 := triV_two n
  have h2 := triV_two (n + 1)
  have h3 : (n + 1) * (n + 1 + 1) = n * (n + 1) + 2 * n + 2 := by grind
  omega
theorem triV_nonneg {n : Int} (h : 0 ≤ n) : 0 ≤ triV n := by
  have h1 := triV_two n
  have h2 : 0 ≤ n * (n + 1) := Int.mul_nonneg h (by omega)
  omega
/-- The number of terms that the sum takes gives the greatest sum. -/
theorem top_sum {s dec n k : Int} (hd : 1 ≤ dec) (h1 : n * dec ≤ s - 1) (h2 : s - 1 < (n + 1) * dec) : k * s - dec * triV k ≤ n * s - dec * triV n := by
  have t1 := triV_two n
  have t2 := triV_two k
  have e : 2 * ((n * s - dec * triV n) - (k * s - dec * triV k)) = (n - k) * (2 * s - dec * (n + k + 1)) := by
    have : 2 * (dec * triV n) = dec * (n * (n + 1)) := by rw [← t1]; grind
    have : 2 * (dec * triV k) = dec * (k * (k + 1)) := by rw [← t2]; grind
    grind
  have g : 0 ≤ (n - k) * (2 * s - dec * (n + k + 1)) := by
    by_cases hk : k + 1 ≤ n
    · refine Int.mul_nonneg (by omega) ?_
      have : (n + k + 1) * dec ≤ (2 * n) * dec := Int.mul_le_mul_of_nonneg_right (by omega) (by omega)
      rw [Int.mul_comm dec]
      have : 2 * n * dec = 2 * (n * dec) := by grind
      omega
    · by_cases hk2 : n + 1 ≤ k
      · have : (2 * (n + 1)) * dec ≤ (n + k + 1) * dec := Int.mul_le_mul_of_nonneg_right (by omega) (by omega)
        have h3 : 2 * (n + 1) * dec = 2 * ((n + 1) * dec) := by grind
        have h4 : 2 * s - dec * (n + k + 1) ≤ 0 := by rw [Int.mul_comm dec]; omega
        have := Int.mul_nonneg (show 0 ≤ k - n by omega) (show 0 ≤ -(2 * s - dec * (n + k + 1)) by omega)
        grind
      · have : n = k := by omega
        subst this; simp
  omega
theorem dstV_pos {v dec delay : Int} (hv : 0 < v) (hd : 1 ≤ dec) : dstV v dec delay = wtV delay * stV v + nV v dec * stV v - dec * triV (nV v dec) := by
  rw [dstV, if_neg (by omega), if_neg (by omega)]
theorem timV_pos {v dec delay : Int} (hv : 0 < v) (hd : 1 ≤ dec) : timV v dec delay = wtV delay + nV v dec + 1 := by
  rw [timV, if_neg (by omega), if_neg (by omega)]
theorem dst_part {v dec : Int} (hv : 0 < v) (hd : 1 ≤ dec) : 0 ≤ nV v dec * stV v - dec * triV (nV v dec) ∧ nV v dec * stV v - dec * triV (nV v dec) ≤ 400000000 := by
  obtain ⟨h1, h2⟩ := @nV_mul v dec hd
  have h3 := @top_sum (stV v) dec (nV v dec) 0 hd h1 h2
  have h0 : triV 0 = 0 := rfl
  have hn := nV_bd hv hd
  have hs := stV_bd hv
  have h4 : nV v dec * stV v ≤ 20000 * 20000 := Int.mul_le_mul (by omega) (by omega) (by omega) (by omega)
  have h5 : 0 ≤ dec * triV (nV v dec) := Int.mul_nonneg (by omega) (triV_nonneg hn.1)
  rw [h0] at h3
  omega
theorem wt_part {v : Int} (delay : Int) (hv : 0 < v) : 0 ≤ wtV delay * stV v ∧ wtV delay * stV v ≤ 200000 := by
  have hs := stV_bd hv
  have hw := wtV_bd delay
  exact ⟨Int.mul_nonneg (by omega) (by omega), by have := Int.mul_le_mul (show wtV delay ≤ 10 by omega) (show stV v ≤ 20000 by omega) (by omega) (by omega); omega⟩
theorem dstV_bd (v dec delay : Int) : 0 ≤ dstV v dec delay ∧ dstV v dec delay ≤ 1073741824 := by
  by_cases hv : v ≤ 0
  · rw [dstV, if_pos hv]; omega
  · by_cases hd : dec < 1
    · rw [dstV, if_neg hv, if_pos hd]; omega
    · rw [dstV_pos (by omega) (by omega)]
      have := @dst_part v dec (by omega) (by omega)
      have := @wt_part v delay (by omega)
      omega
theorem dstV_mono {v w dec delay : Int} (h : v ≤ w) : dstV v dec delay ≤ dstV w dec delay := by
  by_cases hv : v ≤ 0
  · have := dstV_bd w dec delay
    rw [dstV, if_pos hv]; omega
  · by_cases hd : dec < 1
    · rw [dstV, if_neg hv, if_pos hd, dstV, if_neg (by omega), if_pos hd]; omega
    · rw [dstV_pos (by omega) (by omega), dstV_pos (by omega) (by omega)]
      obtain ⟨h1, h2⟩ := @nV_mul w dec (by omega)
      have h3 := @top_sum (stV w) dec (nV w dec) (nV v dec) (by omega) h1 h2
      have hs := stV_mono h
      have hn := @nV_bd v dec (by omega) (by omega)
      have h4 : nV v dec * stV v ≤ nV v dec * stV w := Int.mul_le_mul_of_nonneg_left hs hn.1
      have h5 : wtV delay * stV v ≤ wtV delay * stV w := Int.mul_le_mul_of_nonneg_left hs (wtV_bd _).1
      omega
theorem dstV_harder {v dec more delay : Int} (h1 : 1 ≤ dec) (h : dec ≤ more) : dstV v more delay ≤ dstV v dec delay := by
  by_cases hv : v ≤ 0
  · rw [dstV, if_pos hv, dstV, if_pos hv]; omega
  · rw [dstV_pos (by omega) (by omega), dstV_pos (by omega) (by omega)]
    obtain ⟨h2, h3⟩ := @nV_mul v dec (by omega)
    have h4 := @top_sum (stV v) dec (nV v dec) (nV v more) (by omega) h2 h3
    have hn := @nV_bd v more (by omega) (by omega)
    have h5 : dec * triV (nV v more) ≤ more * triV (nV v more) := Int.mul_le_mul_of_nonneg_right h (triV_nonneg hn.1)
    omega
theorem dstV_longer {v dec delay longer : Int} (h : delay ≤ longer) : dstV v dec delay ≤ dstV v dec longer := by
  unfold dstV
  split
  · omega
  · split
    · omega
    · have hs := @stV_bd v (by omega)
      have : wtV delay * stV v ≤ wtV longer * stV v := Int.mul_le_mul_of_nonneg_right (wtV_mono h) (by omega)
      omega
theorem nV_mono {v w dec : Int} (hd : 1 ≤ dec) (h : v ≤ w) : nV v dec ≤ nV w dec := Int.ediv_le_ediv (by omega) (by have := stV_mono h; omega)
theorem nV_harder {v dec more : Int} (hv : 0 < v) (hd : 1 ≤ dec) (h : dec ≤ more) : nV v more ≤ nV v dec := by
  have h1 := @nV_lt v dec (nV v dec + 1) hd
  have h2 := @nV_lt v more (nV v dec + 1) (by omega)
  have h3 := nV_bd hv hd
  have : (nV v dec + 1) * dec ≤ (nV v dec + 1) * more := Int.mul_le_mul_of_nonneg_left h (by omega)
  omega
theorem timV_bd {v dec delay : Int} (hd : 1 ≤ dec) : 0 ≤ timV v dec delay ∧ timV v dec delay ≤ 20010 := by
  by_cases hv : v ≤ 0
  · rw [timV, if_pos hv]; omega
  · rw [timV_pos (by omega) hd]
    have := @nV_bd v dec (by omega) hd
    have := @stV_bd v (by omega)
    have := wtV_bd delay
    omega
theorem timV_any (v dec delay : Int) : 0 ≤ timV v dec delay ∧ timV v dec delay ≤ 1073741824 := by
  by_cases hd : 1 ≤ dec
  · have := @timV_bd v dec delay hd; omega
  · unfold timV; split
    · omega
    · rw [if_pos (by omega)]; omega
theorem timV_mono {v w dec delay : Int} (hd : 1 ≤ dec) (h : v ≤ w) : timV v dec delay ≤ timV w dec delay := by
  by_cases hv : v ≤ 0
  · have := @timV_bd w dec delay hd
    rw [timV, if_pos hv]; omega
  · rw [timV_pos (by omega) hd, timV_pos (by omega) hd]
    have := nV_mono hd h
    omega
theorem timV_harder {v dec more delay : Int} (hd : 1 ≤ dec) (h : dec ≤ more) : timV v more delay ≤ timV v dec delay := by
  by_cases hv : v ≤ 0
  · rw [timV, if_pos hv, timV, if_pos hv]; omega
  · rw [timV_pos (by omega) (by omega), timV_pos (by omega) hd]
    have := @nV_harder v dec more (by omega) hd h
    omega
theorem aftV_bd (v dec delay c : Int) : 0 ≤ aftV v dec delay c ∧ aftV v dec delay c ≤ 20000 := by
  unfold aftV
  split
  · omega
  · have := @stV_bd v (by omega)
    split
    · omega
    · split
      · omega
      · have h1 := @nV_lt v dec (c - wtV delay) (by omega)
        have := Int.mul_nonneg (show 0 ≤ c - wtV delay by omega) (show 0 ≤ dec by omega)
        omega
/-- The distance after i cycles of braking. -/
def goneV (v dec delay i : Int) : Int :=
  if v ≤ 0 then 0 else if i ≤ wtV delay then i * stV v else wtV delay * stV v + (min (i - wtV delay) (nV v dec) * stV v - dec * triV (min (i - wtV delay) (nV v dec)))
theorem goneV_zero (v dec delay : Int) : goneV v dec delay 0 = 0 := by
  unfold goneV; have := wtV_bd delay
  split
  · rfl
  · rw [if_pos (by omega)]; simp
theorem goneV_a {v dec delay i : Int} (hv : 0 < v) (h : i ≤ wtV delay) : goneV v dec delay i = i * stV v := by rw [goneV, if_neg (by omega), if_pos h]
theorem goneV_b {v dec delay i : Int} (hv : 0 < v) (hd : 1 ≤ dec) (h : wtV delay ≤ i) {k : Int} (hk : min (i - wtV delay) (nV v dec) = k) : goneV v dec delay i = wtV delay * stV v + (k * stV v - dec * triV k) := by
  have hn := nV_bd hv hd
  by_cases h1 : i ≤ wtV delay
  · rw [goneV_a hv h1]
    have : i = wtV delay := by omega
    have : k = 0 := by omega
    subst i k
    have : triV 0 = 0 := rfl
    rw [this]; simp
  · rw [goneV, if_neg (by omega), if_neg h1, hk]
theorem aftV_a {v dec delay i : Int} (hv : 0 < v) (h : i ≤ wtV delay) : aftV v dec delay i = stV v := by rw [aftV, if_neg (by omega), if_pos (.inl h)]
theorem aftV_b {v dec delay i : Int} (hv : 0 < v) (hd : 1 ≤ dec) (h : wtV delay < i) (h2 : i - wtV delay > nV v dec) : aftV v dec delay i = 0 := by rw [aftV, if_neg (by omega), if_neg (by omega), if_pos h2]
theorem aftV_c {v dec delay i : Int} (hv : 0 < v) (hd : 1 ≤ dec) (h : wtV delay < i) (h2 : ¬ i - wtV delay > nV v dec) : aftV v dec delay i = stV v - (i - wtV delay) * dec := by rw [aftV, if_neg (by omega), if_neg (by omega), if_neg h2]
theorem goneV_succ {v dec delay i : Int} (hd : 1 ≤ dec) (hi : 0 ≤ i) : goneV v dec delay (i + 1) = goneV v dec delay i + aftV v dec delay (i + 1) := by
  by_cases hv : v ≤ 0
  · simp [goneV, aftV, hv]
  · have hv' : 0 < v := by omega
    have hn := nV_bd hv' hd
    by_cases h1 : i + 1 ≤ wtV delay
    · rw [goneV_a hv' h1, goneV_a hv' (by omega), aftV_a hv' h1]; grind
    · by_cases h3 : i + 1 - wtV delay > nV v dec
      · rw [goneV_b hv' hd (by omega) (k := nV v dec) (by omega), goneV_b hv' hd (by omega) (k := nV v dec) (by omega), aftV_b hv' hd (by omega) h3]; omega
      · rw [goneV_b hv' hd (by omega) (k := i - wtV delay + 1) (by omega), goneV_b hv' hd (by omega) (k := i - wtV delay) (by omega), aftV_c hv' hd (by omega) h3, triV_succ]
        have e3 : i + 1 - wtV delay = (i - wtV delay) + 1 := by omega
        rw [e3]
        generalize i - wtV delay = k
        grind
theorem goneV_end {v dec delay : Int} (hd : 1 ≤ dec) : goneV v dec delay (timV v dec delay) = dstV v dec delay := by
  by_cases hv : v ≤ 0
  · rw [goneV, if_pos hv, dstV, if_pos hv]
  · have hn := @nV_bd v dec (by omega) hd
    rw [goneV, if_neg hv, dstV_pos (by omega) hd, timV_pos (by omega) hd, if_neg (by omega)]
    have : min (wtV delay + nV v dec + 1 - wtV delay) (nV v dec) = nV v dec := by omega
    rw [this]; omega
theorem aftV_end {v dec delay : Int} (hd : 1 ≤ dec) : aftV v dec delay (timV v dec delay) = 0 := by
  by_cases hv : v ≤ 0
  · rw [aftV, if_pos hv]
  · have hn := @nV_bd v dec (by omega) hd
    rw [aftV, if_neg hv, timV_pos (by omega) hd, if_neg (by omega), if_pos (by omega)]
theorem aftV_zero {v dec delay i : Int} (hd : 1 ≤ dec) (hi : 1 ≤ i) (hin : i ≤ timV v dec delay) (h : aftV v dec delay i = 0) : ¬ i < timV v dec delay := by
  intro hlt
  by_cases hv : v ≤ 0
  · rw [timV, if_pos hv] at hin; omega
  · have hn := @nV_bd v dec (by omega) hd
    have hs := @stV_bd v (by omega)
    rw [timV_pos (by omega) hd] at hlt
    unfold aftV at h
    rw [if_neg hv] at h
    by_cases h1 : i ≤ wtV delay ∨ dec < 1
    · rw [if_pos h1] at h; omega
    · rw [if_neg h1, if_neg (by omega)] at h
      have := @nV_lt v dec (i - wtV delay) hd
      omega
theorem goneV_bd {v dec delay i : Int} (hd : 1 ≤ dec) (hi : 0 ≤ i) : 0 ≤ goneV v dec delay i ∧ goneV v dec delay i ≤ 20000 * i := by
  obtain ⟨n, rfl⟩ := Int.eq_ofNat_of_zero_le hi
  clear hi
  induction n with
  | zero => have := goneV_zero v dec delay; simp at this ⊢; omega
  | succ n ih =>
    have h1 := @goneV_succ v dec delay n hd (by omega)
    have h2 := aftV_bd v dec delay (n + 1)
    have : ((n + 1 : Nat) : Int) = (n : Int) + 1 := by omega
    rw [this]; omega

def IsSpeed (d dec delay r : Int) : Prop := (d < 0 → r = -1) ∧ (0 ≤ d → 0 ≤ r ∧ r ≤ 10000 ∧ dstV r dec delay ≤ d ∧ (r = 10000 ∨ d < dstV (r + 1) dec delay))
theorem IsSpeed.eq {d dec delay r s : Int} (h : IsSpeed d dec delay r) (g : IsSpeed d dec delay s) : r = s := by
  by_cases hd : d < 0
  · rw [h.1 hd, g.1 hd]
  · obtain ⟨h1, h2, h3, h4⟩ := h.2 (by omega)
    obtain ⟨g1, g2, g3, g4⟩ := g.2 (by omega)
    by_cases e1 : r + 1 ≤ s
    · have := @dstV_mono (r + 1) s dec delay e1
      omega
    · by_cases e2 : s + 1 ≤ r
      · have := @dstV_mono (s + 1) r dec delay e2
        omega
      · omega
open Classical in
noncomputable def spdV (d dec delay : Int) : Int := if h : ∃ r, IsSpeed d dec delay r then h.choose else 0
theorem IsSpeed.spd {d dec delay r : Int} (h : IsSpeed d dec delay r) : r = spdV d dec delay := by
  have hx : ∃ r, IsSpeed d dec delay r := ⟨r, h⟩
  rw [spdV, dif_pos hx]; exact h.eq hx.choose_spec
theorem isSpeed_step {dec delay d : Int} (hd : 0 ≤ d) : ∀ n : Nat, n ≤ 10000 → (∃ r : Int, 0 ≤ r ∧ r ≤ n ∧ dstV r dec delay ≤ d ∧ (r = n ∨ d < dstV (r + 1) dec delay)) := by
  intro n
  induction n with
  | zero => intro _; exact ⟨0, by omega, by omega, by rw [dstV, if_pos (by omega)]; exact hd, .inl rfl⟩
  | succ n ih =>
    intro hn
    obtain ⟨r, h1, h2, h3, h4⟩ := ih (by omega)
    rcases h4 with h4 | h4
    · by_cases h5 : d < dstV (r + 1) dec delay
      · exact ⟨r, h1, by omega, h3, .inr h5⟩
      · exact ⟨r + 1, by omega, by omega, by omega, .inl (by omega)⟩
    · exact ⟨r, h1, by omega, h3, .inr h4⟩
theorem spdV_is (d dec delay : Int) : IsSpeed d dec delay (spdV d dec delay) := by
  have hx : ∃ r, IsSpeed d dec delay r := by
    by_cases hd : d < 0
    · exact ⟨-1, fun _ => rfl, fun h => by omega⟩
    · obtain ⟨r, h1, h2, h3, h4⟩ := isSpeed_step (dec := dec) (delay := delay) (show 0 ≤ d by omega) 10000 (by omega)
      exact ⟨r, fun h => by omega, fun _ => ⟨h1, h2, h3, h4⟩⟩
  rw [spdV, dif_pos hx]; exact hx.choose_spec
theorem spdV_bd (d dec delay : Int) : -1 ≤ spdV d dec delay ∧ spdV d dec delay ≤ 10000 := by
  have h := spdV_is d dec delay
  by_cases hd : d < 0
  · have := h.1 hd; omega
  · have := h.2 (by omega); omega
theorem effV_flo (dec grade : Int) : effV dec grade = max (clampV dec 0 200 + floV (981 * clampV grade (-1000) 1000) 1000) 0 := by
  rw [floV_pos (by omega)]; rfl
theorem effV_bd (dec grade : Int) : 0 ≤ effV dec grade ∧ effV dec grade ≤ 1181 := by unfold effV clampV; omega
end Sg

set_option linter.unusedVariables false
set_option linter.unusedSimpArgs false
namespace Sg

/-- A letter, or (not at the beginning) a digit or a low line. -/
def okI (i : Nat) (c : Int) : Bool := (decide (97 ≤ c) && decide (c ≤ 122)) || (!(i == 0) && ((decide (48 ≤ c) && decide (c ≤ 57)) || c == 95))
def okTo (l : List UInt8) (k : Nat) : Prop := ∀ j, j < k → okI j ((l.getD j 0).toNat : Int) = true
def nameB (l : List UInt8) : Bool := (List.range l.length).all (fun j => okI j ((l.getD j 0).toNat : Int)) && decide (1 ≤ l.length) && decide (l.length ≤ 12)
theorem okTo_zero (l : List UInt8) : okTo l 0 := fun j h => absurd h (by omega)
theorem okTo_succ {l : List UInt8} {k : Nat} (h : okTo l k) (hk : okI k ((l.getD k 0).toNat : Int) = true) : okTo l (k + 1) := fun j hj => by
  by_cases e : j = k
  · subst e; exact hk
  · exact h j (by omega)
theorem nameB_all {l : List UInt8} (h : okTo l l.length) : nameB l = (decide (1 ≤ l.length) && decide (l.length ≤ 12)) := by
  unfold nameB
  have : (List.range l.length).all (fun j => okI j ((l.getD j 0).toNat : Int)) = true := by
    rw [List.all_eq_true]; intro j hj; exact h j (List.mem_range.1 hj)
  rw [this]; simp
theorem nameB_bad {l : List UInt8} {k : Nat} (hk : k < l.length) (h : okI k ((l.getD k 0).toNat : Int) = false) : nameB l = false := by
  unfold nameB
  have : (List.range l.length).all (fun j => okI j ((l.getD j 0).toNat : Int)) = false := by
    rw [List.all_eq_false]; exact ⟨k, List.mem_range.2 hk, by rw [h]; simp⟩
  rw [this]; simp

/-- The data of a train. -/
structure Tr where
  id : Int
  name : ByteArray
  len : Int
  speed : Int
  accel : Int
  service : Int
  emergency : Int
  delay : Int
  cons : Int
  rate : Int

def inB (n lo hi : Int) : Bool := decide (lo ≤ n) && decide (n ≤ hi)
theorem inB_true {n lo hi : Int} : inB n lo hi = true ↔ lo ≤ n ∧ n ≤ hi := by simp [inB]
theorem inB_false {n lo hi : Int} : inB n lo hi = false ↔ ¬ (lo ≤ n ∧ n ≤ hi) := by simp [inB]
def chkE (T : Tr) : Int :=
  if nameB T.name.data.toList = false then 3
  else if inB T.id 1 99 && inB T.len 1 50000 && inB T.speed 1 10000 && inB T.accel 1 200 && inB T.service 1 200 && inB T.emergency T.service 200 && inB T.delay 0 5 && inB T.cons 0 500 && inB T.rate 0 100 then 0
  else 1
structure TrOk (T : Tr) : Prop where
  name : nameB T.name.data.toList = true
  id : 1 ≤ T.id ∧ T.id ≤ 99
  len : 1 ≤ T.len ∧ T.len ≤ 50000
  speed : 1 ≤ T.speed ∧ T.speed ≤ 10000
  accel : 1 ≤ T.accel ∧ T.accel ≤ 200
  service : 1 ≤ T.service ∧ T.service ≤ 200
  emergency : T.service ≤ T.emergency ∧ T.emergency ≤ 200
  delay : 0 ≤ T.delay ∧ T.delay ≤ 5
  cons : 0 ≤ T.cons ∧ T.cons ≤ 500
  rate : 0 ≤ T.rate ∧ T.rate ≤ 100
theorem chkE_ok {T : Tr} (h : chkE T = 0) : TrOk T := by
  unfold chkE at h
  split at h
  · omega
  · rename_i hn
    split at h
    · rename_i hc
      simp only [Bool.and_eq_true, inB_true] at hc
      obtain ⟨⟨⟨⟨⟨⟨⟨⟨h1, h2⟩, h3⟩, h4⟩, h5⟩, h6⟩, h7⟩, h8⟩, h9⟩ := hc
      exact ⟨by simpa using hn, h1, h2, h3, h4, h5, h6, h7, h8, h9⟩
    · omega

def errV (c r m : Int) : Int := if m ≤ 0 then 0 else c + min m 1073741824 * r / 1000
theorem errV_pos {c r m : Int} (h : 0 < m) : errV c r m = c + min m 1073741824 * r / 1000 := by rw [errV, if_neg (by omega)]
theorem mul_bd {m r : Int} (h0 : 0 < m) (hm : m ≤ 1073741824) (hr : 0 ≤ r ∧ r ≤ 100) : 0 ≤ m * r ∧ m * r ≤ 107374182400 := by
  refine ⟨Int.mul_nonneg (by omega) (by omega), ?_⟩
  have := Int.mul_le_mul hm hr.2 hr.1 (by omega)
  omega
theorem errV_bd {c r : Int} (m : Int) (hc : 0 ≤ c ∧ c ≤ 500) (hr : 0 ≤ r ∧ r ≤ 100) : 0 ≤ errV c r m ∧ errV c r m ≤ 107374682 := by
  by_cases h : m ≤ 0
  · rw [errV, if_pos h]; omega
  · rw [errV_pos (by omega)]
    have := @mul_bd (min m 1073741824) r (by omega) (by omega) hr
    omega
theorem errV_step {c r : Int} (m : Int) (hc : 0 ≤ c ∧ c ≤ 500) (hr : 0 ≤ r ∧ r ≤ 100) (hm : 1 ≤ m) : errV c r m ≤ errV c r (m + 1) ∧ errV c r (m + 1) ≤ errV c r m + 1 := by
  rw [errV_pos (by omega), errV_pos (by omega)]
  by_cases h : m < 1073741824
  · have e1 : min m 1073741824 = m := by omega
    have e2 : min (m + 1) 1073741824 = m + 1 := by omega
    have e3 : (m + 1) * r = m * r + r := by grind
    rw [e1, e2, e3]; omega
  · have e1 : min m 1073741824 = 1073741824 := by omega
    have e2 : min (m + 1) 1073741824 = 1073741824 := by omega
    rw [e1, e2]; omega
theorem errV_le {c r : Int} {m : Int} (hc : 0 ≤ c ∧ c ≤ 500) (hr : 0 ≤ r ∧ r ≤ 100) (hm : 1 ≤ m) (n : Nat) : errV c r m ≤ errV c r (m + n) ∧ errV c r (m + n) ≤ errV c r m + n := by
  induction n with
  | zero => simp
  | succ n ih =>
    have := @errV_step c r (m + n) hc hr (by omega)
    have e : m + ((n + 1 : Nat) : Int) = m + n + 1 := by omega
    rw [e]; omega

def mayB (c r d m : Int) : Bool := decide (1 ≤ m) && (decide (m - d ≤ errV c r m) && decide (d - m ≤ errV c r m))
theorem mayB_true {c r d m : Int} : mayB c r d m = true ↔ 1 ≤ m ∧ m - d ≤ errV c r m ∧ d - m ≤ errV c r m := by simp [mayB]
theorem mayB_mid {c r d x y z : Int} (hc : 0 ≤ c ∧ c ≤ 500) (hr : 0 ≤ r ∧ r ≤ 100) (hx : mayB c r d x = true) (hy : mayB c r d y = true) (h1 : x ≤ z) (h2 : z ≤ y) : mayB c r d z = true := by
  rw [mayB_true] at *
  obtain ⟨n, hn⟩ : ∃ n : Nat, z = x + n := ⟨(z - x).toNat, by omega⟩
  obtain ⟨k, hk⟩ : ∃ k : Nat, y = z + k := ⟨(y - z).toNat, by omega⟩
  have e1 := @errV_le c r x hc hr (by omega) n
  have e2 := @errV_le c r z hc hr (by omega) k
  rw [← hn] at e1
  rw [← hk] at e2
  omega
theorem mayB_self {c r d : Int} (hc : 0 ≤ c ∧ c ≤ 500) (hr : 0 ≤ r ∧ r ≤ 100) (hd : 1 ≤ d) : mayB c r d d = true := by
  have := @errV_bd c r d hc hr
  rw [mayB_true]; omega
/-- The number that may be measured nearest to the goal g. -/
def IsMeas (c r d g x : Int) : Prop := mayB c r d x = true ∧ (x = g ∨ (x < g ∧ mayB c r d (x + 1) = false) ∨ (g < x ∧ mayB c r d (x - 1) = false))
theorem IsMeas.eq {c r d g x y : Int} (hc : 0 ≤ c ∧ c ≤ 500) (hr : 0 ≤ r ∧ r ≤ 100) (hx : IsMeas c r d g x) (hy : IsMeas c r d g y) : x = y := by
  have key : ∀ x y, x < y → IsMeas c r d g x → IsMeas c r d g y → False := by
    intro x y hlt hx hy
    have a := mayB_mid hc hr hx.1 hy.1 (show x ≤ x + 1 by omega) (by omega)
    have b := mayB_mid hc hr hx.1 hy.1 (show x ≤ y - 1 by omega) (by omega)
    rcases hx.2 with h | ⟨h, h'⟩ | ⟨h, h'⟩
    · rcases hy.2 with g1 | ⟨g1, g'⟩ | ⟨g1, g'⟩
      · omega
      · omega
      · rw [b] at g'; cases g'
    · rw [a] at h'; cases h'
    · rcases hy.2 with g1 | ⟨g1, g'⟩ | ⟨g1, g'⟩
      · omega
      · omega
      · rw [b] at g'; cases g'
  by_cases h1 : x < y
  · exact (key x y h1 hx hy).elim
  · by_cases h2 : y < x
    · exact (key y x h2 hy hx).elim
    · omega
theorem IsMeas.one {c r d g x : Int} (hc : 0 ≤ c ∧ c ≤ 500) (hr : 0 ≤ r ∧ r ≤ 100) (hd : 1 ≤ d) (h : IsMeas c r d (max g 1) x) : IsMeas c r d g x := by
  obtain ⟨h1, h2⟩ := h
  have hx := (mayB_true.1 h1).1
  refine ⟨h1, ?_⟩
  by_cases hg : 1 ≤ g
  · have : max g 1 = g := by omega
    rwa [this] at h2
  · have e : max g 1 = 1 := by omega
    rw [e] at h2
    rcases h2 with h | ⟨h, _⟩ | ⟨h, h'⟩
    · refine .inr (.inr ⟨by omega, ?_⟩)
      subst h
      simp [mayB]
    · omega
    · exact .inr (.inr ⟨by omega, h'⟩)
open Classical in
noncomputable def measV (c r d s : Int) : Int := if d ≤ 0 then 0 else
  if h : ∃ x, IsMeas c r (min d 1073741824) (min d 1073741824 + clampV s (-1073741824) 1073741824) x then h.choose else 0
theorem measV_zero {c r d s : Int} (h : d ≤ 0) : measV c r d s = 0 := by rw [measV, if_pos h]
theorem measV_of {c r d s x : Int} (hc : 0 ≤ c ∧ c ≤ 500) (hr : 0 ≤ r ∧ r ≤ 100) (hd : 0 < d) (h : IsMeas c r (min d 1073741824) (min d 1073741824 + clampV s (-1073741824) 1073741824) x) : measV c r d s = x := by
  have hx : ∃ x, IsMeas c r (min d 1073741824) (min d 1073741824 + clampV s (-1073741824) 1073741824) x := ⟨x, h⟩
  rw [measV, if_neg (by omega), dif_pos hx]; exact hx.choose_spec.eq hc hr h
/-- An estimate. -/
structure Es where
  min : Int
  max : Int
  speed : Int
def addU (c r m : Int) : Int := errV c r (clampV m 0 1073741824)
def addV (c r : Int) (e : Es) (m : Int) : Es :=
  ⟨clampV (e.min + Max.max 0 (clampV m 0 1073741824 - addU c r m)) (-1073741824) 1073741824, clampV (e.max + clampV m 0 1073741824 + addU c r m) (-1073741824) 1073741824, clampV m 0 1073741824 + addU c r m⟩
def coV (n : Int) : Int := clampV n (-1073741824) 1073741824
def fixF (c r : Int) (e : Es) (at_ off : Int) : Es := ⟨Max.max e.min (coV at_ + coV off - errV c r (coV off)), Min.min e.max (coV at_ + coV off + errV c r (coV off)), e.speed⟩
def fixE (c r : Int) (e : Es) (at_ off : Int) : Int := if (fixF c r e at_ off).max < (fixF c r e at_ off).min then 10 else 0
def fixV (c r : Int) (e : Es) (at_ off : Int) : Es := if (fixF c r e at_ off).max < (fixF c r e at_ off).min then e else fixF c r e at_ off
def holdB (e : Es) (x v : Int) : Bool := decide (e.min ≤ x) && (decide (x ≤ e.max) && decide (v ≤ e.speed))
end Sg

set_option linter.unusedVariables false
set_option linter.unusedSimpArgs false
namespace Sg

structure Rst where
  id : Int
  el : Int
  from_ : Int
  to_ : Int
  speed : Int
  act : Bool
theorem Rst.eq {a b : Rst} (h1 : a.id = b.id) (h2 : a.el = b.el) (h3 : a.from_ = b.from_) (h4 : a.to_ = b.to_) (h5 : a.speed = b.speed) (h6 : a.act = b.act) : a = b := by
  cases a; cases b; simp_all
def Rst.z : Rst := ⟨0, 0, 0, 0, 0, false⟩
structure Elm where
  name : ByteArray
  kind : Int
  len : Int
  grade : Int
  speed : Int
  slow : Int
  sec : Int
def Elm.z : Elm := ⟨⟨#[]⟩, 0, 0, 0, 0, 0, 0⟩
structure Jnt where
  ae : Int
  as_ : Int
  be : Int
  bs : Int
structure Sgl where
  name : ByteArray
  el : Int
  side : Int
  ovl : Int
structure Bls where
  id : Int
  el : Int
  off : Int
structure Stp where
  el : Int
  in_ : Int
  out_ : Int
def Stp.z : Stp := ⟨0, 0, 0⟩
/-- An end: an element and its side. -/
structure End where
  el : Int
  side : Int
theorem End.eq {a b : End} (h1 : a.el = b.el) (h2 : a.side = b.side) : a = b := by cases a; cases b; simp_all
/-- The element with a number. -/
def elAt (els : List Elm) (i : Int) : Elm := els.getD i.toNat Elm.z
def hasEl (els : List Elm) (i : Int) : Prop := 0 ≤ i ∧ i < els.length
instance (els : List Elm) (i : Int) : Decidable (hasEl els i) := by unfold hasEl; infer_instance
theorem elAt_of {els : List Elm} {k : Nat} {x : Elm} (h : els[k]? = some x) : elAt els (k : Int) = x := by
  unfold elAt; rw [Int.toNat_natCast, List.getD_eq_getElem?_getD, h]; rfl
/-- Restrictions: what Check asks. -/
def OkR (els : List Elm) (r : Rst) : Prop := 1 ≤ r.id ∧ r.id ≤ 1073741824 ∧ 0 ≤ r.el ∧ r.el < els.length ∧ 0 ≤ r.from_ ∧ r.from_ < r.to_ ∧ r.to_ ≤ (elAt els r.el).len ∧ 100 ≤ r.speed ∧ r.speed ≤ 10000
instance (els : List Elm) (r : Rst) : Decidable (OkR els r) := by unfold OkR; infer_instance
def chkRE (els : List Elm) (r : Rst) : Int := if OkR els r then 0 else 1
theorem chkRE_zero {els : List Elm} {r : Rst} : chkRE els r = 0 ↔ OkR els r := by unfold chkRE; split <;> simp_all
def hitR (k : Int) (r : Rst) : Bool := r.id == k
/-- The place of the first restriction with a number. -/
def idxR (k : Int) (l : List Rst) : Option Nat := l.findIdx? (hitR k)
def idxRV (k : Int) (l : List Rst) : Int := match idxR k l with | some i => i | none => -1
theorem idxR_some {k : Int} {l : List Rst} {i : Nat} {p : Rst} (hi : l[i]? = some p) (h : hitR k p = true) (hn : ∀ (j : Nat) t, j < i → l[j]? = some t → hitR k t = false) : idxR k l = some i := by
  obtain ⟨hl, rfl⟩ := List.getElem?_eq_some_iff.1 hi
  unfold idxR
  rw [List.findIdx?_eq_some_iff_getElem]
  exact ⟨hl, h, fun j hj => by rw [hn j _ hj (List.getElem?_eq_getElem (by omega))]; simp⟩
theorem idxR_none {k : Int} {l : List Rst} (hn : ∀ (j : Nat) t, l[j]? = some t → hitR k t = false) : idxR k l = none := by
  unfold idxR
  rw [List.findIdx?_eq_none_iff]
  intro x hx
  obtain ⟨j, hj, rfl⟩ := List.getElem_of_mem hx
  exact hn j _ (List.getElem?_eq_getElem hj)
theorem idxR_at {k : Int} {l : List Rst} {i : Nat} (h : idxR k l = some i) : ∃ p, l[i]? = some p ∧ hitR k p = true ∧ ∀ (j : Nat) t, j < i → l[j]? = some t → hitR k t = false := by
  unfold idxR at h
  rw [List.findIdx?_eq_some_iff_getElem] at h
  obtain ⟨hl, h1, h2⟩ := h
  refine ⟨l[i], List.getElem?_eq_getElem hl, h1, fun j t hj ht => ?_⟩
  obtain ⟨hl', rfl⟩ := List.getElem?_eq_some_iff.1 ht
  have := h2 j hj
  simpa using this
theorem idxR_no {k : Int} {l : List Rst} (h : idxR k l = none) : ∀ (j : Nat) t, l[j]? = some t → hitR k t = false := fun j t ht => by
  unfold idxR at h
  rw [List.findIdx?_eq_none_iff] at h
  obtain ⟨hl', rfl⟩ := List.getElem?_eq_some_iff.1 ht
  exact h _ (List.getElem_mem _)
theorem idxRV_some {k : Int} {l : List Rst} {i : Nat} (h : idxR k l = some i) : idxRV k l = i := by unfold idxRV; rw [h]
theorem idxRV_none {k : Int} {l : List Rst} (h : idxR k l = none) : idxRV k l = -1 := by unfold idxRV; rw [h]
/-- The place where a restriction belongs: before the first with a greater number. -/
def gtR (k : Int) (r : Rst) : Bool := decide (k < r.id)
def gtO (k : Int) (l : List Rst) : Option Nat := l.findIdx? (gtR k)
def gtV (k : Int) (l : List Rst) : Int := match gtO k l with | some i => i | none => -1
def plcR (k : Int) (l : List Rst) : Nat := match gtO k l with | some i => i | none => l.length
theorem gtO_some {k : Int} {l : List Rst} {i : Nat} {p : Rst} (hi : l[i]? = some p) (h : gtR k p = true) (hn : ∀ (j : Nat) t, j < i → l[j]? = some t → gtR k t = false) : gtO k l = some i := by
  obtain ⟨hl, rfl⟩ := List.getElem?_eq_some_iff.1 hi
  unfold gtO
  rw [List.findIdx?_eq_some_iff_getElem]
  exact ⟨hl, h, fun j hj => by rw [hn j _ hj (List.getElem?_eq_getElem (by omega))]; simp⟩
theorem gtO_none {k : Int} {l : List Rst} (hn : ∀ (j : Nat) t, l[j]? = some t → gtR k t = false) : gtO k l = none := by
  unfold gtO
  rw [List.findIdx?_eq_none_iff]
  intro x hx
  obtain ⟨j, hj, rfl⟩ := List.getElem_of_mem hx
  exact hn j _ (List.getElem?_eq_getElem hj)
theorem plcR_le (k : Int) (l : List Rst) : plcR k l ≤ l.length := by
  unfold plcR
  cases h : gtO k l with
  | none => exact Nat.le_refl _
  | some i =>
    unfold gtO at h
    rw [List.findIdx?_eq_some_iff_getElem] at h
    obtain ⟨hl, _⟩ := h
    show i ≤ l.length; omega
theorem gtV_some {k : Int} {l : List Rst} {i : Nat} (h : gtO k l = some i) : gtV k l = i ∧ plcR k l = i := by unfold gtV plcR; rw [h]; exact ⟨rfl, rfl⟩
theorem gtV_none {k : Int} {l : List Rst} (h : gtO k l = none) : gtV k l = -1 ∧ plcR k l = l.length := by unfold gtV plcR; rw [h]; exact ⟨rfl, rfl⟩
theorem plcR_of {k : Int} {l : List Rst} {i : Nat} (hi : i ≤ l.length) (hn : ∀ (j : Nat) t, j < i → l[j]? = some t → gtR k t = false) (hs : ∀ t, l[i]? = some t → gtR k t = true) : plcR k l = i := by
  by_cases e : i < l.length
  · exact (gtV_some (gtO_some (List.getElem?_eq_getElem e) (hs _ (List.getElem?_eq_getElem e)) hn)).2
  · have : i = l.length := by omega
    subst this
    exact (gtV_none (gtO_none fun j t ht => hn j t (List.getElem?_eq_some_iff.1 ht).1 ht)).2
def offR (r : Rst) : Rst := { r with act := false }
def putE (els : List Elm) (l : List Rst) (r : Rst) : Int := if ¬ OkR els r then 1 else if (idxR r.id l).isSome then 8 else if 16 ≤ l.length then 16 else 0
def putL (els : List Elm) (l : List Rst) (r : Rst) : List Rst := if putE els l r = 0 then l.take (plcR r.id l) ++ [offR r] ++ l.drop (plcR r.id l) else []
theorem put_bad {els : List Elm} {l : List Rst} {r : Rst} (h : ¬ OkR els r) : putE els l r = 1 ∧ putL els l r = [] := by
  have e : putE els l r = 1 := by rw [putE, if_pos h]
  exact ⟨e, by rw [putL, e, if_neg (by decide)]⟩
theorem put_dup {els : List Elm} {l : List Rst} {r : Rst} {i : Nat} (h : OkR els r) (hi : idxR r.id l = some i) : putE els l r = 8 ∧ putL els l r = [] := by
  have e : putE els l r = 8 := by rw [putE, if_neg (fun k => k h), hi]; rfl
  exact ⟨e, by rw [putL, e, if_neg (by decide)]⟩
theorem put_full {els : List Elm} {l : List Rst} {r : Rst} (h : OkR els r) (hi : idxR r.id l = none) (hl : 16 ≤ l.length) : putE els l r = 16 ∧ putL els l r = [] := by
  have e : putE els l r = 16 := by rw [putE, if_neg (fun k => k h), hi, if_neg (by simp), if_pos hl]
  exact ⟨e, by rw [putL, e, if_neg (by decide)]⟩
theorem put_ok {els : List Elm} {l : List Rst} {r : Rst} (h : OkR els r) (hi : idxR r.id l = none) (hl : ¬ 16 ≤ l.length) : putE els l r = 0 ∧ putL els l r = l.take (plcR r.id l) ++ [offR r] ++ l.drop (plcR r.id l) := by
  have e : putE els l r = 0 := by rw [putE, if_neg (fun k => k h), hi, if_neg (by simp), if_neg hl]
  exact ⟨e, by rw [putL, e, if_pos rfl]⟩
/-- Set: in force, or removed. -/
def setE (l : List Rst) (id : Int) (a : Bool) : Int := match idxR id l with
  | none => 9
  | some i => if a = true ∧ (l.getD i Rst.z).act = true then 11 else 0
def onR (r : Rst) : Rst := { r with act := true }
def setL (l : List Rst) (id : Int) (a : Bool) : List Rst := match idxR id l with
  | none => []
  | some i => if a = true then (if (l.getD i Rst.z).act = true then [] else l.set i (onR (l.getD i Rst.z))) else l.eraseIdx i
/-- The part of a step that begins at c which a restriction concerns. -/
def fwdS (els : List Elm) (s : Stp) : Bool := s.in_ == 0 || (s.in_ == 2 && (elAt els s.el).kind == 3)
def partA (els : List Elm) (s : Stp) (c : Int) (r : Rst) : Int := if fwdS els s = true then c + r.from_ else c + (elAt els s.el).len - r.to_
def partZ (els : List Elm) (s : Stp) (c : Int) (r : Rst) : Int := if fwdS els s = true then c + r.to_ else c + (elAt els s.el).len - r.from_
/-- One restriction: along the way, from the coordinate c on. -/
noncomputable def lowF (els : List Elm) (r : Rst) : List Stp → Int → List Sgm → List Sgm
  | [], _, p => p
  | s :: ss, c, p => lowF els r ss (c + (elAt els s.el).len) (if s.el = r.el then limL p (partA els s c r) (partZ els s c r) r.speed else p)
/-- Where the way's step k begins. -/
def begF (els : List Elm) (way : List Stp) (c : Int) (k : Nat) : Int := (way.take k).foldl (fun a s => a + (elAt els s.el).len) c
theorem begF_succ {els : List Elm} {way : List Stp} {c : Int} {k : Nat} {s : Stp} (h : way[k]? = some s) : begF els way c (k + 1) = begF els way c k + (elAt els s.el).len := by
  obtain ⟨hl, rfl⟩ := List.getElem?_eq_some_iff.1 h
  unfold begF
  rw [List.take_succ_eq_append_getElem hl, List.foldl_append]
  rfl
theorem lowF_append (els : List Elm) (r : Rst) : ∀ (a b : List Stp) (c : Int) (p : List Sgm), lowF els r (a ++ b) c p = lowF els r b (a.foldl (fun a s => a + (elAt els s.el).len) c) (lowF els r a c p)
  | [], b, c, p => rfl
  | s :: a, b, c, p => by
    have := lowF_append els r a b (c + (elAt els s.el).len) (if s.el = r.el then limL p (partA els s c r) (partZ els s c r) r.speed else p)
    exact this
noncomputable def lowTo (els : List Elm) (r : Rst) (way : List Stp) (c : Int) (k : Nat) (p : List Sgm) : List Sgm := lowF els r (way.take k) c p
theorem lowTo_succ {els : List Elm} {r : Rst} {way : List Stp} {c : Int} {k : Nat} {s : Stp} {p : List Sgm} (h : way[k]? = some s) :
    lowTo els r way c (k + 1) p = if s.el = r.el then limL (lowTo els r way c k p) (partA els s (begF els way c k) r) (partZ els s (begF els way c k) r) r.speed else lowTo els r way c k p := by
  obtain ⟨hl, rfl⟩ := List.getElem?_eq_some_iff.1 h
  unfold lowTo
  rw [List.take_succ_eq_append_getElem hl, lowF_append]
  rfl
theorem limL_nil (f t v : Int) : limL [] f t v = [] := by
  unfold limL; split
  · split <;> rfl
  · rfl
theorem lowF_nil (els : List Elm) (r : Rst) : ∀ (a : List Stp) (c : Int), lowF els r a c [] = []
  | [], _ => rfl
  | s :: a, c => by
    show lowF els r a _ (if s.el = r.el then limL [] _ _ _ else []) = []
    rw [limL_nil, ite_self]
    exact lowF_nil els r a _
theorem lowTo_dead {els : List Elm} {r : Rst} {way : List Stp} {c : Int} {k : Nat} {p : List Sgm} (h : lowTo els r way c k p = []) (hk : k ≤ way.length) : lowF els r way c p = [] := by
  have e : way = way.take k ++ way.drop k := (List.take_append_drop k way).symm
  rw [e, lowF_append]
  unfold lowTo at h
  rw [h, lowF_nil]
/-- All restrictions. -/
def useR (els : List Elm) (r : Rst) : Prop := r.act = true ∧ OkR els r
instance (els : List Elm) (r : Rst) : Decidable (useR els r) := by unfold useR; infer_instance
noncomputable def allF (els : List Elm) (way : List Stp) (c : Int) : List Rst → List Sgm → List Sgm
  | [], p => p
  | r :: l, p => allF els way c l (if useR els r then lowF els r way c p else p)
noncomputable def allTo (els : List Elm) (way : List Stp) (c : Int) (l : List Rst) (k : Nat) (p : List Sgm) : List Sgm := allF els way c (l.take k) p
theorem allF_append (els : List Elm) (way : List Stp) (c : Int) : ∀ (a b : List Rst) (p : List Sgm), allF els way c (a ++ b) p = allF els way c b (allF els way c a p)
  | [], b, p => rfl
  | r :: a, b, p => allF_append els way c a b (if useR els r then lowF els r way c p else p)
theorem allTo_succ {els : List Elm} {way : List Stp} {c : Int} {l : List Rst} {k : Nat} {r : Rst} {p : List Sgm} (h : l[k]? = some r) :
    allTo els way c l (k + 1) p = if useR els r then lowF els r way c (allTo els way c l k p) else allTo els way c l k p := by
  obtain ⟨hl, rfl⟩ := List.getElem?_eq_some_iff.1 h
  unfold allTo
  rw [List.take_succ_eq_append_getElem hl, allF_append]
  rfl
theorem allF_nil (els : List Elm) (way : List Stp) (c : Int) : ∀ l : List Rst, allF els way c l [] = []
  | [] => rfl
  | r :: l => by
    show allF els way c l (if useR els r then lowF els r way c [] else []) = []
    rw [lowF_nil, ite_self]
    exact allF_nil els way c l
theorem allTo_dead {els : List Elm} {way : List Stp} {c : Int} {l : List Rst} {k : Nat} {p : List Sgm} (h : allTo els way c l k p = []) (hk : k ≤ l.length) : allF els way c l p = [] := by
  have e : l = l.take k ++ l.drop k := (List.take_append_drop k l).symm
  rw [e, allF_append]
  unfold allTo at h
  rw [h, allF_nil]
/-- What a passage needs (rails). -/
def needO (kind in_ out_ : Int) : Option Int :=
  if kind = 1 ∧ ((in_ = 0 ∧ out_ = 1) ∨ (in_ = 1 ∧ out_ = 0)) then some 0
  else if kind = 3 ∧ ((in_ = 0 ∧ out_ = 1) ∨ (in_ = 1 ∧ out_ = 0) ∨ (in_ = 2 ∧ out_ = 3) ∨ (in_ = 3 ∧ out_ = 2)) then some 0
  else if kind = 2 ∧ ((in_ = 0 ∧ out_ = 1) ∨ (in_ = 1 ∧ out_ = 0)) then some 1
  else if kind = 2 ∧ ((in_ = 0 ∧ out_ = 2) ∨ (in_ = 2 ∧ out_ = 0)) then some 2
  else none
def needV (kind in_ out_ : Int) : Int := (needO kind in_ out_).getD 0
def needB (kind in_ out_ : Int) : Bool := (needO kind in_ out_).isSome
/-- The end that is joined to an end. -/
def joinO : List Jnt → End → Option End
  | [], _ => none
  | j :: l, e => if j.ae = e.el ∧ j.as_ = e.side then some ⟨j.be, j.bs⟩ else if j.be = e.el ∧ j.bs = e.side then some ⟨j.ae, j.as_⟩ else joinO l e
def joinV (l : List Jnt) (e : End) : End := (joinO l e).getD ⟨0, 0⟩
def joinB (l : List Jnt) (e : End) : Bool := (joinO l e).isSome
theorem joinO_drop {l : List Jnt} {k : Nat} {j : Jnt} (h : l[k]? = some j) (e : End) : joinO (l.drop k) e = if j.ae = e.el ∧ j.as_ = e.side then some ⟨j.be, j.bs⟩ else if j.be = e.el ∧ j.bs = e.side then some ⟨j.ae, j.as_⟩ else joinO (l.drop (k + 1)) e := by
  obtain ⟨hl, rfl⟩ := List.getElem?_eq_some_iff.1 h
  rw [List.drop_eq_getElem_cons hl]
  rfl
theorem joinO_mem : ∀ {l : List Jnt} {e f : End}, joinO l e = some f → ∃ j ∈ l, f = ⟨j.be, j.bs⟩ ∨ f = ⟨j.ae, j.as_⟩
  | [], _, _, h => by cases h
  | j :: l, e, f, h => by
    unfold joinO at h
    split at h
    · cases h; exact ⟨j, by simp, .inl rfl⟩
    · split at h
      · cases h; exact ⟨j, by simp, .inr rfl⟩
      · obtain ⟨x, hx, hf⟩ := joinO_mem h
        exact ⟨x, by simp [hx], hf⟩
/-- A way. -/
def StepOk (els : List Elm) (s : Stp) : Prop := hasEl els s.el ∧ needB (elAt els s.el).kind s.in_ s.out_ = true
def PairOk (jts : List Jnt) (s t : Stp) : Prop := joinB jts ⟨s.el, s.out_⟩ = true ∧ (joinV jts ⟨s.el, s.out_⟩).el = t.el ∧ (joinV jts ⟨s.el, s.out_⟩).side = t.in_
def WayTo (els : List Elm) (jts : List Jnt) (way : List Stp) (k : Nat) : Prop := ∀ i s, i < k → way[i]? = some s → StepOk els s ∧ (∀ j t, j < i → way[j]? = some t → t.el ≠ s.el) ∧ (∀ t, 0 < i → way[i - 1]? = some t → PairOk jts t s)
def Way (els : List Elm) (jts : List Jnt) (way : List Stp) : Prop := 0 < way.length ∧ way.length ≤ 64 ∧ WayTo els jts way way.length
open Classical in
noncomputable def wayB (els : List Elm) (jts : List Jnt) (way : List Stp) : Bool := decide (Way els jts way)
theorem wayB_true {els : List Elm} {jts : List Jnt} {way : List Stp} : wayB els jts way = true ↔ Way els jts way := by simp [wayB]
theorem wayB_false {els : List Elm} {jts : List Jnt} {way : List Stp} : wayB els jts way = false ↔ ¬ Way els jts way := by simp [wayB]
theorem Way.step {els : List Elm} {jts : List Jnt} {way : List Stp} (h : Way els jts way) {k : Nat} {s : Stp} (hs : way[k]? = some s) : StepOk els s := (h.2.2 k s (List.getElem?_eq_some_iff.1 hs).1 hs).1
/-- Apply. -/
def ApOk (els : List Elm) (jts : List Jnt) (way : List Stp) (c : Int) (p : List Sgm) : Prop := Valid p ∧ Way els jts way ∧ -1073741824 ≤ c ∧ c ≤ 1073741824
open Classical in
noncomputable def appL (els : List Elm) (jts : List Jnt) (l : List Rst) (way : List Stp) (c : Int) (p : List Sgm) : List Sgm := if ApOk els jts way c p then allF els way c l p else p
end Sg

set_option linter.unusedVariables false
set_option linter.unusedSimpArgs false
namespace Sg

/-- Which side a train leaves by, with the points' position. -/
def outO (k i p : Int) : Option Int :=
  if k = 1 then (if i = 0 then some 1 else if i = 1 then some 0 else none)
  else if k = 2 then (if i = 0 ∧ p = 1 then some 1 else if i = 0 ∧ p = 2 then some 2 else if i = 1 ∧ p = 1 then some 0 else if i = 2 ∧ p = 2 then some 0 else none)
  else if k = 3 then (if i = 0 then some 1 else if i = 1 then some 0 else if i = 2 then some 3 else if i = 3 then some 2 else none)
  else none
theorem outO_need {k i p o : Int} (h : outO k i p = some o) : needB k i o = true := by
  unfold outO at h
  unfold needB needO
  split at h
  · split at h
    · cases h; simp_all
    · split at h
      · cases h; simp_all
      · cases h
  · split at h
    · split at h
      · cases h; simp_all
      · split at h
        · cases h; simp_all
        · split at h
          · cases h; simp_all
          · split at h
            · cases h; simp_all
            · cases h
    · split at h
      · split at h
        · cases h; simp_all
        · split at h
          · cases h; simp_all
          · split at h
            · cases h; simp_all
            · split at h
              · cases h; simp_all
              · cases h
      · cases h
/-- A body: its steps, the place of its head in the last one, its length. -/
structure Bod where
  steps : List Stp
  head : Int
  len : Int
def lenOf (els : List Elm) (s : Stp) : Int := (elAt els s.el).len
def sumL (els : List Elm) : List Stp → Int
  | [] => 0
  | s :: r => lenOf els s + sumL els r
theorem sumL_append (els : List Elm) : ∀ a b : List Stp, sumL els (a ++ b) = sumL els a + sumL els b
  | [], b => by simp [sumL]
  | s :: a, b => by simp only [List.cons_append, sumL, sumL_append els a b]; omega
theorem sumL_take (els : List Elm) {l : List Stp} {k : Nat} {s : Stp} (h : l[k]? = some s) : sumL els (l.take (k + 1)) = sumL els (l.take k) + lenOf els s := by
  obtain ⟨hl, rfl⟩ := List.getElem?_eq_some_iff.1 h
  rw [List.take_succ_eq_append_getElem hl, sumL_append]
  simp [sumL]
def lastS (l : List Stp) : Stp := l.getD (l.length - 1) Stp.z
def firstS (l : List Stp) : Stp := l.getD 0 Stp.z
/-- The way from the beginning of the first step to the head; where the rear lies in the first one. -/
def strV (els : List Elm) (l : List Stp) (head : Int) : Int := sumL els (l.take (l.length - 1)) + head
def rearV (els : List Elm) (l : List Stp) (head len : Int) : Int := strV els l head - len
theorem strV_cons (els : List Elm) (s t : Stp) (r : List Stp) (head : Int) : strV els (s :: t :: r) head = lenOf els s + strV els (t :: r) head := by
  unfold strV
  simp only [List.length_cons, Nat.add_sub_cancel, List.take_succ_cons, sumL]
  omega
theorem rearV_cons (els : List Elm) (s t : Stp) (r : List Stp) (head len : Int) : rearV els (s :: t :: r) head len = lenOf els s + rearV els (t :: r) head len := by
  unfold rearV; rw [strV_cons]; omega
theorem lastS_cons (s t : Stp) (r : List Stp) : lastS (s :: t :: r) = lastS (t :: r) := by
  unfold lastS; simp
/-- Steps that the rear has left are taken away. -/
def trimL (els : List Elm) : List Stp → Int → List Stp
  | s :: t :: r, rear => if lenOf els s ≤ rear then trimL els (t :: r) (rear - lenOf els s) else s :: t :: r
  | l, _ => l
def trimB (els : List Elm) (l : List Stp) (head len : Int) : List Stp := trimL els l (rearV els l head len)
theorem trimB_cons (els : List Elm) (s t : Stp) (r : List Stp) (head len : Int) : trimB els (s :: t :: r) head len = if lenOf els s ≤ rearV els (s :: t :: r) head len then trimB els (t :: r) head len else s :: t :: r := by
  unfold trimB
  rw [trimL]
  have : rearV els (s :: t :: r) head len - lenOf els s = rearV els (t :: r) head len := by rw [rearV_cons]; omega
  rw [this]
theorem trimB_one (els : List Elm) (s : Stp) (head len : Int) : trimB els [s] head len = [s] := by simp [trimB, trimL]
theorem trimB_nil (els : List Elm) (head len : Int) : trimB els [] head len = [] := by simp [trimB, trimL]
/-- What is trimmed is trimmed. -/
def Trimd (els : List Elm) (l : List Stp) (head len : Int) : Prop := 1 < l.length → rearV els l head len < lenOf els (firstS l)
theorem trimB_id {els : List Elm} {l : List Stp} {head len : Int} (h : Trimd els l head len) : trimB els l head len = l := by
  match l, h with
  | [], _ => exact trimB_nil _ _ _
  | [s], _ => exact trimB_one _ _ _ _
  | s :: t :: r, h =>
    rw [trimB_cons, if_neg]
    have := h (by simp)
    simp only [firstS, List.getD_cons_zero] at this
    omega
theorem trimB_trimd (els : List Elm) (head len : Int) : ∀ l : List Stp, Trimd els (trimB els l head len) head len
  | [] => by intro h; simp [trimB_nil] at h
  | [s] => by intro h; simp [trimB_one] at h
  | s :: t :: r => by
    rw [trimB_cons]
    split
    · exact trimB_trimd els head len (t :: r)
    · intro _
      simp only [firstS, List.getD_cons_zero]
      omega
theorem trimB_last (els : List Elm) (head len : Int) : ∀ l : List Stp, lastS (trimB els l head len) = lastS l
  | [] => by rw [trimB_nil]
  | [s] => by rw [trimB_one]
  | s :: t :: r => by
    rw [trimB_cons]
    split
    · rw [trimB_last els head len (t :: r), lastS_cons]
    · rfl
theorem trimB_rear {els : List Elm} {head len : Int} : ∀ {l : List Stp}, 0 ≤ rearV els l head len → 0 ≤ rearV els (trimB els l head len) head len
  | [], h => by rw [trimB_nil]; exact h
  | [s], h => by rw [trimB_one]; exact h
  | s :: t :: r, h => by
    rw [trimB_cons]
    split
    · rename_i hc
      refine trimB_rear ?_
      rw [rearV_cons] at hc
      omega
    · exact h
theorem trimB_pos {els : List Elm} {head len : Int} : ∀ {l : List Stp}, 0 < l.length → 0 < (trimB els l head len).length
  | [], h => by simp at h
  | [s], h => by rw [trimB_one]; simp
  | s :: t :: r, h => by
    rw [trimB_cons]
    split
    · exact trimB_pos (by simp)
    · simp
/-- The next step. -/
def covB (l : List Stp) (el : Int) : Bool := l.any fun s => s.el == el
def posAt (pos : List Int) (el : Int) : Int := if el < pos.length then pos.getD el.toNat 0 else 0
def nextS (els : List Elm) (jts : List Jnt) (pos : List Int) (l : List Stp) : Option Stp := match joinO jts ⟨(lastS l).el, (lastS l).out_⟩ with
  | none => none
  | some e => if covB l e.el = true then none else match outO (elAt els e.el).kind e.side (posAt pos e.el) with
    | none => none
    | some o => some ⟨e.el, e.side, o⟩
/-- A movement: what is left to move, what was moved. -/
structure Mvd where
  steps : List Stp
  head : Int
  moved : Int
  ended : Bool
def movF (els : List Elm) (jts : List Jnt) (pos : List Int) (len : Int) : Nat → List Stp → Int → Int → Int → Mvd
  | 0, l, head, _, moved => ⟨l, head, moved, false⟩
  | n + 1, l, head, left, moved =>
    if left - min left (lenOf els (lastS l) - head) ≤ 0 then ⟨trimB els l (head + min left (lenOf els (lastS l) - head)) len, head + min left (lenOf els (lastS l) - head), moved + min left (lenOf els (lastS l) - head), false⟩
    else match nextS els jts pos (trimB els l (head + min left (lenOf els (lastS l) - head)) len) with
      | none => ⟨trimB els l (head + min left (lenOf els (lastS l) - head)) len, head + min left (lenOf els (lastS l) - head), moved + min left (lenOf els (lastS l) - head), true⟩
      | some s => movF els jts pos len n (trimB els l (head + min left (lenOf els (lastS l) - head)) len ++ [s]) 0 (left - min left (lenOf els (lastS l) - head)) (moved + min left (lenOf els (lastS l) - head))
section
variable {els : List Elm} {jts : List Jnt} {pos : List Int} {len : Int}
/-- To go on within the step changes nothing about the outcome. -/
theorem mov_adv {n : Nat} {l : List Stp} {head left moved k : Int} (hk : k = min left (lenOf els (lastS l) - head)) (h0 : 0 ≤ left) (h1 : head ≤ lenOf els (lastS l)) :
    movF els jts pos len (n + 1) l (head + k) (left - k) (moved + k) = movF els jts pos len (n + 1) l head left moved := by
  have e : min (left - k) (lenOf els (lastS l) - (head + k)) = 0 := by omega
  rw [movF, movF, e, ← hk]
  simp only [Int.add_zero, Int.sub_zero]
theorem mov_done {n : Nat} {l : List Stp} {head moved : Int} (h1 : head ≤ lenOf els (lastS l)) : movF els jts pos len (n + 1) l head 0 moved = ⟨trimB els l head len, head, moved, false⟩ := by
  have e : min (0 : Int) (lenOf els (lastS l) - head) = 0 := by omega
  rw [movF, e]
  simp
theorem mov_stop {n : Nat} {l : List Stp} {left moved : Int} (h0 : 0 < left) (hs : nextS els jts pos (trimB els l (lenOf els (lastS l)) len) = none) : movF els jts pos len (n + 1) l (lenOf els (lastS l)) left moved = ⟨trimB els l (lenOf els (lastS l)) len, lenOf els (lastS l), moved, true⟩ := by
  have e : min left (lenOf els (lastS l) - lenOf els (lastS l)) = 0 := by omega
  rw [movF, e]
  simp only [Int.add_zero, Int.sub_zero]
  rw [if_neg (by omega), hs]
theorem mov_next {n : Nat} {l : List Stp} {left moved : Int} {s : Stp} (h0 : 0 < left) (hs : nextS els jts pos (trimB els l (lenOf els (lastS l)) len) = some s) :
    movF els jts pos len (n + 1) l (lenOf els (lastS l)) left moved = movF els jts pos len n (trimB els l (lenOf els (lastS l)) len ++ [s]) 0 left moved := by
  have e : min left (lenOf els (lastS l) - lenOf els (lastS l)) = 0 := by omega
  rw [movF, e]
  simp only [Int.add_zero, Int.sub_zero]
  rw [if_neg (by omega), hs]
end
/-! ### Ways that grow and shrink -/
theorem way_tail {els : List Elm} {jts : List Jnt} {s t : Stp} {r : List Stp} (h : Way els jts (s :: t :: r)) : Way els jts (t :: r) := by
  obtain ⟨_, h2, h3⟩ := h
  refine ⟨by simp, by simp at h2 ⊢; omega, fun i x hi hx => ?_⟩
  obtain ⟨a, b, c⟩ := h3 (i + 1) x (by simp at hi ⊢; omega) (by simpa using hx)
  exact ⟨a, fun j y hj hy => b (j + 1) y (by omega) (by simpa using hy), fun y hi0 hy => c y (by omega) (by
    have e : i + 1 - 1 = (i - 1) + 1 := by omega
    rw [e]; simpa using hy)⟩
theorem way_trim {els : List Elm} {jts : List Jnt} {head len : Int} : ∀ {l : List Stp}, Way els jts l → Way els jts (trimB els l head len)
  | [], h => by rw [trimB_nil]; exact h
  | [s], h => by rw [trimB_one]; exact h
  | s :: t :: r, h => by
    rw [trimB_cons]
    split
    · exact way_trim (way_tail h)
    · exact h
theorem way_snoc {els : List Elm} {jts : List Jnt} {l : List Stp} {s : Stp} (h : Way els jts l) (h1 : StepOk els s) (h2 : ∀ (j : Nat) t, l[j]? = some t → t.el ≠ s.el) (h3 : PairOk jts (lastS l) s) (h4 : l.length < 64) : Way els jts (l ++ [s]) := by
  obtain ⟨a, b, c⟩ := h
  refine ⟨by simp, by simp; omega, fun i x hi hx => ?_⟩
  have get : ∀ (j : Nat) y, j < l.length → (l ++ [s])[j]? = some y → l[j]? = some y := fun j y hj hy => by rwa [List.getElem?_append_left hj] at hy
  by_cases hl : i < l.length
  · obtain ⟨c1, c2, c3⟩ := c i x hl (get i x hl hx)
    exact ⟨c1, fun j y hj hy => c2 j y hj (get j y (by omega) hy), fun y hi0 hy => c3 y hi0 (get (i - 1) y (by omega) hy)⟩
  · have hi' : i = l.length := by simp at hi; omega
    subst hi'
    obtain rfl : s = x := by simpa using hx
    refine ⟨h1, fun j y hj hy => h2 j y (get j y hj hy), fun y hi0 hy => ?_⟩
    have hy' := get (l.length - 1) y (by omega) hy
    have e : lastS l = y := by unfold lastS; rw [List.getD_eq_getElem?_getD, hy']; rfl
    rw [← e]; exact h3
theorem holes : ∀ (n : Nat) (l : List Int), l.Nodup → (∀ x ∈ l, 0 ≤ x ∧ x < n) → l.length ≤ n
  | 0, l, _, h => by
    cases l with
    | nil => simp
    | cons x r => have := h x (by simp); omega
  | n + 1, l, hn, h => by
    by_cases hm : (n : Int) ∈ l
    · have hl := List.length_erase_of_mem hm
      have := holes n (l.erase n) (hn.erase _) (fun x hx => by
        rw [hn.mem_erase_iff] at hx
        have := h x hx.2
        have := hx.1
        omega)
      have hp := List.length_pos_of_mem hm
      omega
    · have := holes n l hn (fun x hx => by
        have h1 := h x hx
        have : x ≠ n := fun e => hm (e ▸ hx)
        omega)
      omega
theorem way_len {els : List Elm} {jts : List Jnt} {l : List Stp} (h : Way els jts l) : l.length ≤ els.length := by
  have := holes els.length (l.map Stp.el) (by
    rw [List.nodup_iff_pairwise_ne, List.pairwise_iff_getElem]
    intro i j hi hj hij
    simp at hi hj ⊢
    exact (h.2.2 j l[j] hj (List.getElem?_eq_getElem hj)).2.1 i l[i] hij (List.getElem?_eq_getElem hi)) (fun x hx => by
    obtain ⟨s, hs, rfl⟩ := List.mem_map.1 hx
    obtain ⟨i, hi, rfl⟩ := List.getElem_of_mem hs
    exact (h.step (List.getElem?_eq_getElem hi)).1)
  simpa using this
/-! ### What holds of a movement -/
theorem lastS_at {l : List Stp} (h : 0 < l.length) : l[l.length - 1]? = some (lastS l) := by
  unfold lastS
  rw [List.getD_eq_getElem?_getD, List.getElem?_eq_getElem (by omega)]; rfl
theorem sumL_last (els : List Elm) {l : List Stp} (h : 0 < l.length) : sumL els l = sumL els (l.take (l.length - 1)) + lenOf els (lastS l) := by
  have := sumL_take els (lastS_at h)
  rw [show l.length - 1 + 1 = l.length by omega, List.take_length] at this
  exact this
theorem rear_snoc (els : List Elm) {l : List Stp} (s : Stp) (len : Int) (h : 0 < l.length) : rearV els (l ++ [s]) 0 len = rearV els l (lenOf els (lastS l)) len := by
  unfold rearV strV
  have e : (l ++ [s]).take ((l ++ [s]).length - 1) = l := by simp
  rw [e, sumL_last els h]; omega
theorem rear_add (els : List Elm) (l : List Stp) (head k len : Int) : rearV els l (head + k) len = rearV els l head len + k := by unfold rearV strV; omega
theorem lastS_snoc (l : List Stp) (s : Stp) : lastS (l ++ [s]) = s := by
  unfold lastS; simp [List.getD_eq_getElem?_getD]
theorem next_is {els : List Elm} {jts : List Jnt} {pos : List Int} {l : List Stp} {s : Stp} (hJ : ∀ e f, joinO jts e = some f → hasEl els f.el) (h : nextS els jts pos l = some s) :
    StepOk els s ∧ (∀ (j : Nat) t, l[j]? = some t → t.el ≠ s.el) ∧ PairOk jts (lastS l) s := by
  unfold nextS at h
  cases he : joinO jts ⟨(lastS l).el, (lastS l).out_⟩ with
  | none => rw [he] at h; cases h
  | some e =>
    rw [he] at h
    simp only at h
    split at h
    · cases h
    · rename_i hc
      cases ho : outO (elAt els e.el).kind e.side (posAt pos e.el) with
      | none => rw [ho] at h; cases h
      | some o =>
        rw [ho] at h
        simp only [Option.some.injEq] at h
        subst h
        refine ⟨⟨hJ _ _ he, outO_need ho⟩, fun j t ht hte => hc ?_, by simp [joinB, he], by simp [joinV, he], by simp [joinV, he]⟩
        unfold covB
        rw [List.any_eq_true]
        exact ⟨t, List.mem_of_getElem? ht, by simpa using hte⟩
structure MovR (els : List Elm) (jts : List Jnt) (len moved left : Int) (R : Mvd) : Prop where
  way : Way els jts R.steps
  h1 : 1 ≤ R.head
  h2 : R.head ≤ lenOf els (lastS R.steps)
  rear : 0 ≤ rearV els R.steps R.head len
  trim : Trimd els R.steps R.head len
  m1 : moved ≤ R.moved
  m2 : R.moved ≤ moved + left
  done : R.ended = false → R.moved = moved + left
theorem mov_ok {els : List Elm} {jts : List Jnt} {pos : List Int} {len : Int} (hE : ∀ el, hasEl els el → 500 ≤ (elAt els el).len) (hJ : ∀ e f, joinO jts e = some f → hasEl els f.el) (h32 : els.length ≤ 32) :
    ∀ (n : Nat) (l : List Stp) (head left moved : Int), Way els jts l → 0 ≤ head → head ≤ lenOf els (lastS l) → 0 ≤ rearV els l head len → 0 ≤ left → (1 ≤ head ∨ 0 < left) → left < 500 * n + (lenOf els (lastS l) - head) →
      MovR els jts len moved left (movF els jts pos len (n + 1) l head left moved) := by
  intro n
  induction n with
  | zero =>
    intro l head left moved hw h0 h1 hr hl hp hf
    have e : min left (lenOf els (lastS l) - head) = left := by omega
    rw [movF, e, if_pos (by omega)]
    have hr2 : 0 ≤ rearV els l (head + left) len := by rw [rear_add]; omega
    exact ⟨way_trim hw, by show 1 ≤ head + left; omega, by show head + left ≤ _; rw [trimB_last]; omega, trimB_rear hr2, trimB_trimd _ _ _ _, by show moved ≤ moved + left; omega, Int.le_refl _, fun _ => rfl⟩
  | succ n ih =>
    intro l head left moved hw h0 h1 hr hl hp hf
    obtain ⟨k, hk⟩ : ∃ k, k = min left (lenOf els (lastS l) - head) := ⟨_, rfl⟩
    rw [movF, ← hk]
    have hr2 : 0 ≤ rearV els l (head + k) len := by rw [rear_add]; omega
    have hws := way_trim (head := head + k) (len := len) hw
    by_cases hd : left - k ≤ 0
    · rw [if_pos hd]
      exact ⟨hws, by show 1 ≤ head + k; omega, by show head + k ≤ _; rw [trimB_last]; omega, trimB_rear hr2, trimB_trimd _ _ _ _, by show moved ≤ moved + k; omega, by show moved + k ≤ moved + left; omega, fun _ => by show moved + k = moved + left; omega⟩
    · rw [if_neg hd]
      have hkr : k = lenOf els (lastS l) - head := by omega
      have hlast : hasEl els (lastS l).el := (hw.step (lastS_at hw.1)).1
      have h500 := hE _ hlast
      cases hs : nextS els jts pos (trimB els l (head + k) len) with
      | none => exact ⟨hws, by show 1 ≤ head + k; unfold lenOf at *; omega, by show head + k ≤ _; rw [trimB_last]; omega, trimB_rear hr2, trimB_trimd _ _ _ _, by show moved ≤ moved + k; omega, by show moved + k ≤ moved + left; omega, fun h => by cases h⟩
      | some s =>
        obtain ⟨a1, a2, a3⟩ := next_is hJ hs
        have hpos := hws.1
        have hw2 := way_snoc hws a1 a2 a3 (by have := way_len hws; omega)
        have hls := hE _ a1.1
        have hr3 : 0 ≤ rearV els (trimB els l (head + k) len ++ [s]) 0 len := by
          rw [rear_snoc els s len hpos, trimB_last]
          have e : head + k = lenOf els (lastS l) := by omega
          have := trimB_rear hr2
          rw [e] at this ⊢
          exact this
        have := ih (trimB els l (head + k) len ++ [s]) 0 (left - k) (moved + k) hw2 (Int.le_refl _) (by rw [lastS_snoc]; unfold lenOf; omega) hr3 (by omega) (.inr (by omega)) (by rw [lastS_snoc]; unfold lenOf at *; omega)
        show MovR els jts len moved left (movF els jts pos len (n + 1) (trimB els l (head + k) len ++ [s]) 0 (left - k) (moved + k))
        exact ⟨this.way, this.h1, this.h2, this.rear, this.trim, by have := this.m1; omega, by have := this.m2; omega, fun h => by have := this.done h; omega⟩
end Sg

set_option linter.unusedVariables false
set_option linter.unusedSimpArgs false
namespace Sg

/-- What Check asks of a body. -/
def BodOk (els : List Elm) (jts : List Jnt) (l : List Stp) (head len : Int) : Prop := Way els jts l ∧ 1 ≤ len ∧ len ≤ 1000000 ∧ 1 ≤ head ∧ head ≤ lenOf els (lastS l)
def RearOk (els : List Elm) (l : List Stp) (head len : Int) : Prop := 0 ≤ rearV els l head len ∧ Trimd els l head len
open Classical in
noncomputable def chkM (els : List Elm) (jts : List Jnt) (l : List Stp) (head len : Int) : Int := if BodOk els jts l head len then (if RearOk els l head len then 0 else 10) else 1
theorem chkM_zero {els : List Elm} {jts : List Jnt} {l : List Stp} {head len : Int} : chkM els jts l head len = 0 ↔ BodOk els jts l head len ∧ RearOk els l head len := by
  unfold chkM; split
  · split <;> simp_all
  · simp_all
theorem chkM_arg {els : List Elm} {jts : List Jnt} {l : List Stp} {head len : Int} (h : ¬ BodOk els jts l head len) : chkM els jts l head len = 1 := by unfold chkM; rw [if_neg h]
theorem chkM_rear {els : List Elm} {jts : List Jnt} {l : List Stp} {head len : Int} (h : BodOk els jts l head len) (g : ¬ RearOk els l head len) : chkM els jts l head len = 10 := by unfold chkM; rw [if_pos h, if_neg g]
/-- The gradient under the head. -/
noncomputable def gradV (els : List Elm) (jts : List Jnt) (l : List Stp) (head len : Int) : Int :=
  if chkM els jts l head len = 0 then (if (lastS l).in_ = 0 ∨ ((lastS l).in_ = 2 ∧ (elAt els (lastS l).el).kind = 3) then (elAt els (lastS l).el).grade else -(elAt els (lastS l).el).grade) else 0
/-- The speed and the count of braking cycles behind a cycle. -/
def freeV (T : Tr) (v want : Int) : Int := if v < want then min (min (v + T.accel) want) T.speed else max (max 0 want) (v - T.service)
def newB (br braking : Int) : Int := if br = 0 ∨ br = 1 then 0 else min (braking + 1) 1073741824
def newV (T : Tr) (v g br braking want : Int) : Int :=
  if br = 0 then freeV T v want else if br = 1 then max 0 (v - effV T.service g) else if T.delay < newB br braking then max 0 (v - effV T.emergency g) else v
theorem newV_bd {T : Tr} (hT : TrOk T) {v g br braking want : Int} (hv : 0 ≤ v ∧ v ≤ 10000) : 0 ≤ newV T v g br braking want ∧ newV T v g br braking want ≤ v + T.accel ∧ newV T v g br braking want ≤ max v T.speed ∧ newV T v g br braking want ≤ 10000 := by
  have h1 := hT.accel
  have h2 := hT.speed
  have h3 := hT.service
  have h4 := (effV_bd T.service g).1
  have h5 := (effV_bd T.emergency g).1
  unfold newV
  split
  · unfold freeV; split <;> omega
  · split
    · omega
    · split <;> omega
/-- A unit. -/
structure GoodU (els : List Elm) (jts : List Jnt) (T : Tr) (l : List Stp) (head len speed x braking : Int) : Prop where
  body : chkM els jts l head len = 0
  tr : Sg.chkE T = 0
  speed : 0 ≤ speed ∧ speed ≤ 10000
  x : -1073741824 ≤ x ∧ x ≤ 1073741824
  braking : 0 ≤ braking ∧ braking ≤ 1073741824
/-- How a body moves by d. -/
def movV (els : List Elm) (jts : List Jnt) (pos : List Int) (len : Int) (l : List Stp) (head d : Int) : Mvd := movF els jts pos len 2003 l head (max 0 (min d 1000000)) 0
theorem movV_ok {els : List Elm} {jts : List Jnt} {pos : List Int} {len : Int} (hE : ∀ el, hasEl els el → 500 ≤ (elAt els el).len) (hJ : ∀ e f, joinO jts e = some f → hasEl els f.el) (h32 : els.length ≤ 32) {l : List Stp} {head d : Int} (h : chkM els jts l head len = 0) :
    MovR els jts len 0 (max 0 (min d 1000000)) (movV els jts pos len l head d) ∧ chkM els jts (movV els jts pos len l head d).steps (movV els jts pos len l head d).head len = 0 := by
  obtain ⟨⟨b1, b2, b3, b4, b5⟩, b6, b7⟩ := chkM_zero.1 h
  have m := mov_ok (pos := pos) hE hJ h32 2002 l head (max 0 (min d 1000000)) 0 b1 (by omega) b5 b6 (by omega) (.inl b4) (by omega)
  exact ⟨m, chkM_zero.2 ⟨⟨m.way, b2, b3, m.h1, m.h2⟩, m.rear, m.trim⟩⟩
end Sg

set_option linter.unusedVariables false
set_option linter.unusedSimpArgs false
namespace Sg

/-- What holds at the head of the loop: D is the whole distance, R what comes out, m a number of steps that are left. -/
structure MovI (els : List Elm) (jts : List Jnt) (pos : List Int) (len D : Int) (R : Mvd) (m : Nat) (l : List Stp) (head moved : Int) : Prop where
  way : Way els jts l
  h0 : 0 ≤ head
  h1 : head ≤ lenOf els (lastS l)
  rear : 0 ≤ rearV els l head len
  m0 : 0 ≤ moved
  m1 : moved ≤ D
  one : 1 ≤ head ∨ moved < D
  fuel : D - moved < 500 * m + (lenOf els (lastS l) - head)
  eq : movF els jts pos len (m + 1) l head (D - moved) moved = R
section
variable {els : List Elm} {jts : List Jnt} {pos : List Int} {len D : Int} {R : Mvd} {m : Nat} {l : List Stp} {head moved : Int}
theorem MovI.pos_ (h : MovI els jts pos len D R m l head moved) : 0 < l.length := h.way.1
theorem MovI.adv (h : MovI els jts pos len D R m l head moved) {k : Int} (hk : k = min (lenOf els (lastS l) - head) (D - moved)) (h0 : 0 < k) : MovI els jts pos len D R m l (head + k) (moved + k) := by
  have a1 := h.h0
  have a2 := h.h1
  have a3 := h.rear
  have a4 := h.m0
  have a5 := h.m1
  have a6 := h.fuel
  refine ⟨h.way, by omega, by omega, by rw [rear_add]; omega, by omega, by omega, .inl (by omega), by omega, ?_⟩
  rw [← h.eq]
  have e := mov_adv (els := els) (jts := jts) (pos := pos) (len := len) (n := m) (l := l) (head := head) (left := D - moved) (moved := moved) (k := k) (by rw [hk]; omega) (by omega) a2
  rw [← e]
  congr 1
  omega
theorem MovI.fin (h : MovI els jts pos len D R m l head moved) (hm : ¬ moved < D) : R = ⟨trimB els l head len, head, moved, false⟩ := by
  have a5 := h.m1
  obtain rfl : moved = D := by omega
  rw [← h.eq, Int.sub_self]
  exact mov_done h.h1
theorem MovI.stop (h : MovI els jts pos len D R m l head moved) (hm : moved < D) (hh : head = lenOf els (lastS l)) (hs : nextS els jts pos (trimB els l head len) = none) : R = ⟨trimB els l head len, head, moved, true⟩ := by
  subst hh
  rw [← h.eq]
  exact mov_stop (by omega) hs
theorem MovI.next (hE : ∀ el, hasEl els el → 500 ≤ (elAt els el).len) (hJ : ∀ e f, joinO jts e = some f → hasEl els f.el) (h32 : els.length ≤ 32) (h : MovI els jts pos len D R m l head moved) (hm : moved < D) (hh : head = lenOf els (lastS l)) {s : Stp} (hs : nextS els jts pos (trimB els l head len) = some s) :
    ∃ m', m = m' + 1 ∧ MovI els jts pos len D R m' (trimB els l head len ++ [s]) 0 moved := by
  subst hh
  have a6 := h.fuel
  obtain ⟨m', rfl⟩ : ∃ m', m = m' + 1 := ⟨m - 1, by omega⟩
  have hws := way_trim (head := lenOf els (lastS l)) (len := len) h.way
  obtain ⟨b1, b2, b3⟩ := next_is hJ hs
  have hw2 := way_snoc hws b1 b2 b3 (by have := way_len hws; omega)
  have hls : 500 ≤ lenOf els s := hE _ b1.1
  refine ⟨m', rfl, hw2, Int.le_refl _, by rw [lastS_snoc]; omega, ?_, h.m0, h.m1, .inr hm, by rw [lastS_snoc]; omega, ?_⟩
  · rw [rear_snoc els s len hws.1, trimB_last]
    exact trimB_rear h.rear
  · rw [← h.eq]
    exact (mov_next (by omega) hs).symm
/-- How a body moves, whatever body it is. -/
noncomputable def moveV (els : List Elm) (jts : List Jnt) (pos : List Int) (len : Int) (l : List Stp) (head d : Int) : Mvd := if chkM els jts l head len = 0 then movV els jts pos len l head d else ⟨l, head, 0, false⟩
theorem movI_start {d : Int} (h : chkM els jts l head len = 0) (hE : ∀ el, hasEl els el → 500 ≤ (elAt els el).len) : MovI els jts pos len (max 0 (min d 1000000)) (movV els jts pos len l head d) 2002 l head 0 := by
  obtain ⟨⟨b1, b2, b3, b4, b5⟩, b6, b7⟩ := chkM_zero.1 h
  refine ⟨b1, by omega, b5, b6, Int.le_refl _, by omega, .inl b4, by omega, ?_⟩
  rw [Int.sub_zero]; rfl
theorem MovI.nil (h : MovI els jts pos len D R m l head moved) (hm : ¬ moved < D) (ht : Trimd els l head len) : R = ⟨l, head, moved, false⟩ := by rw [h.fin hm, trimB_id ht]
/-- The reference's round: the step to the end of the last element, or to the end of the distance. -/
theorem MovI.round (h : MovI els jts pos len D R m l head moved) (hm : moved < D) {k : Int} (hk : k = min (D - moved) (lenOf els (lastS l) - head)) : (D - moved - k = 0 → R = ⟨trimB els l (head + k) len, head + k, moved + k, false⟩) ∧ (D - moved - k ≠ 0 → moved + k < D ∧ head + k = lenOf els (lastS l) ∧ MovI els jts pos len D R m l (head + k) (moved + k)) ∧ 0 ≤ k ∧ k ≤ D - moved ∧ head + k ≤ lenOf els (lastS l) := by
  have a1 := h.h1
  have hI : MovI els jts pos len D R m l (head + k) (moved + k) := by
    by_cases h0 : 0 < k
    · exact h.adv (by omega) h0
    · have e : k = 0 := by omega
      subst e
      simpa using h
  refine ⟨fun he => hI.fin (by omega), fun he => ⟨by omega, by omega, hI⟩, by omega, by omega, by omega⟩
end
end Sg

set_option linter.unusedVariables false
set_option linter.unusedSimpArgs false
namespace Sg

structure Lnk where
  id : Int
  at_ : Int
def Lnk.z : Lnk := ⟨0, 0⟩
structure Rea where
  id : Int
  off : Int
/-- What an on-board unit holds. -/
structure Cu where
  T : Tr
  mode : Int
  brake : Int
  next : Int
  emin : Int
  emax : Int
  espeed : Int
  seq : Int
  en : Int
  p : List Sgm
  k : List Lnk
  peer : Int
  out : Int
  inn : Int
  heard : Int
  known : Bool
  since : Int
open Classical in
noncomputable def goodB (els : List Elm) (jts : List Jnt) (T : Tr) (l : List Stp) (head len speed x braking : Int) : Bool := decide (GoodU els jts T l head len speed x braking)
theorem goodB_true {els : List Elm} {jts : List Jnt} {T : Tr} {l : List Stp} {head len speed x braking : Int} : goodB els jts T l head len speed x braking = true ↔ GoodU els jts T l head len speed x braking := by simp [goodB]
theorem goodB_false {els : List Elm} {jts : List Jnt} {T : Tr} {l : List Stp} {head len speed x braking : Int} : goodB els jts T l head len speed x braking = false ↔ ¬ GoodU els jts T l head len speed x braking := by simp [goodB]
/-- A unit after a cycle: its steps, head, speed, coordinate, count of braking cycles; the distance; whether the track ended. -/
structure Stv where
  steps : List Stp
  head : Int
  speed : Int
  x : Int
  braking : Int
  n : Int
  ended : Bool
noncomputable def stepV (els : List Elm) (jts : List Jnt) (pos : List Int) (T : Tr) (br : Int) (l : List Stp) (head len speed x braking want : Int) : Stv :=
  if goodB els jts T l head len speed x braking = true then
    (fun v (m : Mvd) => ⟨m.steps, m.head, if m.ended = true then 0 else v, x + m.moved, newB br braking, m.moved, m.ended⟩ : Int → Mvd → Stv)
      (newV T speed (gradV els jts l head len) br braking want) (moveV els jts pos len l head (newV T speed (gradV els jts l head len) br braking want))
  else ⟨l, head, speed, x, braking, 0, false⟩
/-- The wanted speed, not negative, changes nothing. -/
theorem newV_max {T : Tr} {v g br braking want : Int} (hv : 0 ≤ v) : newV T v g br braking (max want 0) = newV T v g br braking want := by
  unfold newV
  split
  · unfold freeV
    split <;> split <;> omega
  · rfl
end Sg

set_option linter.unusedVariables false
set_option linter.unusedSimpArgs false
open Go.Sort
namespace Sg

/-- A balise that was passed: its place, its number. -/
structure Pas where
  place : Int
  id : Int
instance : Inhabited Pas := ⟨⟨0, 0⟩⟩
def befP (a b : Pas) : Bool := decide (a.place < b.place) || (a.place == b.place && decide (a.id < b.id))
theorem befP_true {a b : Pas} : befP a b = true ↔ a.place < b.place ∨ (a.place = b.place ∧ a.id < b.id) := by unfold befP; simp
theorem befP_false {a b : Pas} : befP a b = false ↔ b.place < a.place ∨ (a.place = b.place ∧ b.id ≤ a.id) := by
  rw [← Bool.not_eq_true, befP_true]; omega
/-- With a further one ahead of the first that comes behind it. -/
def insP (o : Pas) : List Pas → List Pas
  | [] => [o]
  | x :: xs => if befP o x = true then o :: x :: xs else x :: insP o xs
def sortP (l : List Pas) : List Pas := l.foldl (fun acc x => insP x acc) []
theorem insP_len (o : Pas) : ∀ l : List Pas, (insP o l).length = l.length + 1
  | [] => rfl
  | x :: xs => by unfold insP; split; · rfl
                  · simp [insP_len o xs]
theorem insP_perm (o : Pas) : ∀ l : List Pas, (insP o l).Perm (o :: l)
  | [] => List.Perm.refl _
  | x :: xs => by
    unfold insP; split
    · exact List.Perm.refl _
    · exact ((insP_perm o xs).cons x).trans (List.Perm.swap o x xs)
theorem insP_last {o : Pas} : ∀ {l : List Pas}, (∀ a ∈ l, befP o a = false) → insP o l = l ++ [o]
  | [], _ => rfl
  | x :: xs, h => by
    unfold insP
    rw [h x (by simp), if_neg (by simp), insP_last fun a ha => h a (by simp [ha])]; rfl
theorem insP_snoc {o x : Pas} (hx : befP o x = true) : ∀ {l : List Pas}, insP o (l ++ [x]) = insP o l ++ [x]
  | [] => by simp [insP, hx]
  | y :: ys => by
    rw [List.cons_append]
    unfold insP
    by_cases h : befP o y = true
    · rw [if_pos h, if_pos h]; rfl
    · rw [if_neg h, if_neg h, insP_snoc hx]; rfl
/-- ahead of the place: none comes behind o; at the place: one does. -/
theorem insP_at {o x : Pas} : ∀ {l : List Pas} {k : Nat}, l[k]? = some x → befP o x = true → (∀ a ∈ l.take k, befP o a = false) → insP o l = l.take k ++ o :: l.drop k
  | [], _, hk, _, _ => by simp at hk
  | y :: ys, 0, hk, hx, _ => by simp at hk; subst hk; simp [insP, hx]
  | y :: ys, k + 1, hk, hx, hn => by
    have h0 : befP o y = false := hn y (by simp)
    have := insP_at (l := ys) (k := k) (by simpa using hk) hx (fun a ha => hn a (by simp [ha]))
    simp [insP, h0, this]
def SortedP (l : List Pas) : Prop := l.Pairwise fun a b => befP b a = false
theorem SortedP.ins (o : Pas) : ∀ {l : List Pas}, SortedP l → SortedP (insP o l)
  | [], _ => List.pairwise_singleton _ _
  | x :: xs, h => by
    obtain ⟨h1, h2⟩ := List.pairwise_cons.1 h
    unfold insP
    by_cases hb : befP o x = true
    · rw [if_pos hb]
      refine List.pairwise_cons.2 ⟨fun b hb2 => ?_, h⟩
      rcases List.mem_cons.1 hb2 with rfl | hb2
      · rw [befP_true] at hb; rw [befP_false]; omega
      · have := h1 b hb2
        rw [befP_true] at hb; rw [befP_false] at this ⊢; omega
    · rw [if_neg hb]
      refine List.pairwise_cons.2 ⟨fun b hb2 => ?_, SortedP.ins o h2⟩
      rcases List.mem_cons.1 ((insP_perm o xs).subset hb2) with rfl | hb2
      · rw [Bool.not_eq_true] at hb; exact hb
      · exact h1 b hb2
theorem sortP_snoc (l : List Pas) (x : Pas) : sortP (l ++ [x]) = insP x (sortP l) := by unfold sortP; rw [List.foldl_append]; rfl
theorem rev_indP {p : List Pas → Prop} (h0 : p []) (h1 : ∀ l x, p l → p (l ++ [x])) (l : List Pas) : p l := by
  have : ∀ m : List Pas, p m.reverse := by
    intro m
    induction m with
    | nil => exact h0
    | cons x m ih => rw [List.reverse_cons]; exact h1 _ _ ih
  simpa using this l.reverse
theorem sortP_sorted (l : List Pas) : SortedP (sortP l) := by
  induction l using rev_indP with
  | h0 => exact List.Pairwise.nil
  | h1 l x ih => rw [sortP_snoc]; exact ih.ins x
theorem sortP_len (l : List Pas) : (sortP l).length = l.length := by
  induction l using rev_indP with
  | h0 => rfl
  | h1 l x ih => rw [sortP_snoc, insP_len, ih]; simp
theorem sortP_perm (l : List Pas) : (sortP l).Perm l := by
  induction l using rev_indP with
  | h0 => exact List.Perm.refl _
  | h1 l x ih =>
    rw [sortP_snoc]
    exact (insP_perm x _).trans ((ih.cons x).trans (List.perm_append_singleton x l).symm)
/-- Which orders stay beside a new one. -/
theorem get_arrP {l : List Pas} {i : Nat} {x : Pas} (h : l[i]? = some x) : l.toArray[i]! = x := by
  obtain ⟨hl, rfl⟩ := List.getElem?_eq_some_iff.1 h
  simp [hl]
theorem swp_midP (A R : List Pas) (x o : Pas) : swp (A ++ x :: o :: R).toArray (A.length + 1) A.length = (A ++ o :: x :: R).toArray := by
  have e1 : (A ++ x :: o :: R).toArray[A.length]! = x := get_arrP (by simp)
  have e2 : (A ++ x :: o :: R).toArray[A.length + 1]! = o := get_arrP (by rw [List.getElem?_append_right (by omega)]; simp)
  unfold swp
  rw [e1, e2]
  simp [List.set_append]
theorem insInner_isP (o : Pas) : ∀ (n : Nat) (A R : List Pas), A.length = n → SortedP A → insInner befP 0 n (A ++ o :: R).toArray = (insP o A ++ R).toArray
  | 0, A, R, hA, _ => by
    obtain rfl := List.length_eq_zero_iff.1 hA
    rfl
  | n + 1, A, R, hA, hs => by
    obtain ⟨B, x, rfl⟩ : ∃ B x, A = B ++ [x] := ⟨A.dropLast, A.getLast (by intro h; subst h; simp at hA), (List.dropLast_concat_getLast _).symm⟩
    have hB : B.length = n := by simpa using hA
    obtain ⟨hs1, _, hs2⟩ := List.pairwise_append.1 hs
    have e1 : (B ++ [x] ++ o :: R).toArray[n + 1]! = o := get_arrP (by rw [List.getElem?_append_right (by simp; omega)]; simp [hB])
    have e2 : (B ++ [x] ++ o :: R).toArray[n]! = x := get_arrP (by rw [List.append_assoc, List.getElem?_append_right (by omega)]; simp [hB])
    unfold insInner
    rw [e1, e2]
    by_cases hb : befP o x = true
    · have hsw := swp_midP B R x o
      rw [hB] at hsw
      rw [if_pos (by simp [hb]), show B ++ [x] ++ o :: R = B ++ x :: o :: R by simp, hsw, insInner_isP o n B (x :: R) hB hs1, insP_snoc hb]
      simp
    · rw [if_neg (by simp [hb])]
      rw [Bool.not_eq_true] at hb
      rw [insP_last (l := B ++ [x])]
      · simp
      · intro a ha
        rcases List.mem_append.1 ha with ha | ha
        · have := hs2 a ha x (by simp)
          rw [befP_false] at this hb ⊢; omega
        · simp at ha; subst ha; exact hb
theorem insOuter_isP (l : List Pas) : ∀ (g i : Nat), l.length - i = g → i ≤ l.length → insOuter befP 0 l.length i (sortP (l.take i) ++ l.drop i).toArray = (sortP l).toArray
  | 0, i, hg, hi => by
    have : i = l.length := by omega
    subst this
    unfold insOuter
    simp
  | g + 1, i, hg, hi => by
    have hlt : i < l.length := by omega
    obtain ⟨o, ho⟩ : ∃ o, l[i]? = some o := ⟨_, List.getElem?_eq_getElem hlt⟩
    obtain ⟨hl, he⟩ := List.getElem?_eq_some_iff.1 ho
    have hd : l.drop i = o :: l.drop (i + 1) := by rw [List.drop_eq_getElem_cons hl, he]
    have ht : l.take (i + 1) = l.take i ++ [o] := by rw [List.take_succ_eq_append_getElem hl, he]
    have hlen : (sortP (l.take i)).length = i := by rw [sortP_len, List.length_take]; omega
    unfold insOuter
    rw [if_pos hlt, hd, insInner_isP o i _ _ hlen (sortP_sorted _), ← sortP_snoc, ← ht]
    exact insOuter_isP l g (i + 1) (by omega) (by omega)
theorem insertionSort_isP (l : List Pas) : Go.Sort.insertionSort befP l.toArray 0 l.length = (sortP l).toArray := by
  unfold Go.Sort.insertionSort
  by_cases h : l.length = 0
  · obtain rfl := List.length_eq_zero_iff.1 h
    unfold insOuter; rfl
  · have := insOuter_isP l (l.length - 1) 1 rfl (by omega)
    have e : sortP (l.take 1) ++ l.drop 1 = l := by
      cases l with
      | nil => simp at h
      | cons x xs => simp [sortP, insP]
    rw [e] at this
    exact this

/-! ### What is in force -/
end Sg

set_option linter.unusedVariables false
set_option linter.unusedSimpArgs false
namespace Sg

/-- What the balises of a valid layout are. -/
def BalOk (els : List Elm) (bals : List Bls) : Prop := ∀ (k : Nat) b, bals[k]? = some b → 1 ≤ b.id ∧ b.id ≤ 1073741824 ∧ hasEl els b.el ∧ 0 ≤ b.off ∧ b.off ≤ (elAt els b.el).len
/-- Where a step passes a balise, and whether it does. -/
def placeB (s : Stp) (b : Bls) : Bool := (s.el == b.el) && (((s.in_ == 0) && (s.out_ == 1)) || ((s.in_ == 1) && (s.out_ == 0)))
def placeV (els : List Elm) (s : Stp) (b : Bls) : Int := if placeB s b = true then (if s.in_ = 0 then b.off else lenOf els s - b.off) else 0
theorem place_no {els : List Elm} {s : Stp} {b : Bls} (h : placeB s b = false) : placeV els s b = 0 := by unfold placeV; rw [h]; rfl
theorem place_up {els : List Elm} {s : Stp} {b : Bls} (h0 : s.el = b.el) (h1 : s.in_ = 0) (h2 : s.out_ = 1) : placeB s b = true ∧ placeV els s b = b.off := by
  have : placeB s b = true := by simp [placeB, h0, h1, h2]
  exact ⟨this, by unfold placeV; rw [if_pos this, if_pos h1]⟩
theorem place_down {els : List Elm} {s : Stp} {b : Bls} (h0 : s.el = b.el) (h1 : s.in_ = 1) (h2 : s.out_ = 0) : placeB s b = true ∧ placeV els s b = lenOf els s - b.off := by
  have : placeB s b = true := by simp [placeB, h0, h1, h2]
  exact ⟨this, by unfold placeV; rw [if_pos this, if_neg (by omega)]⟩
/-- The first place of a step in a list, -1 if there is none. -/
def idxS : List Stp → Stp → Int
  | [], _ => -1
  | x :: r, s => if x.el = s.el ∧ x.in_ = s.in_ ∧ x.out_ = s.out_ then 0 else (if idxS r s = -1 then -1 else idxS r s + 1)
theorem Stp.eq' {a b : Stp} (h1 : a.el = b.el) (h2 : a.in_ = b.in_) (h3 : a.out_ = b.out_) : a = b := by cases a; cases b; simp_all
theorem idxS_lo : ∀ (l : List Stp) (s : Stp), -1 ≤ idxS l s ∧ idxS l s < l.length
  | [], s => by simp [idxS]
  | x :: r, s => by
    have := idxS_lo r s
    unfold idxS
    rw [List.length_cons]
    split
    · omega
    · split <;> omega
theorem idxS_at : ∀ {l : List Stp} {k : Nat} {s : Stp}, l[k]? = some s → (∀ (j : Nat) t, j < k → l[j]? = some t → t ≠ s) → idxS l s = k
  | [], k, s, h, _ => by simp at h
  | x :: r, 0, s, h, _ => by simp at h; subst h; simp [idxS]
  | x :: r, k + 1, s, h, hn => by
    have h0 : ¬ (x.el = s.el ∧ x.in_ = s.in_ ∧ x.out_ = s.out_) := fun g => hn 0 x (by omega) (by simp) (Stp.eq' g.1 g.2.1 g.2.2)
    have ih := idxS_at (l := r) (k := k) (s := s) (by simpa using h) (fun j t hj ht => hn (j + 1) t (by omega) (by simpa using ht))
    unfold idxS
    rw [if_neg h0, if_neg (by omega), ih]; omega
theorem idxS_no : ∀ {l : List Stp} {s : Stp}, (∀ (j : Nat) t, l[j]? = some t → t ≠ s) → idxS l s = -1
  | [], s, _ => rfl
  | x :: r, s, hn => by
    have h0 : ¬ (x.el = s.el ∧ x.in_ = s.in_ ∧ x.out_ = s.out_) := fun g => hn 0 x (by simp) (Stp.eq' g.1 g.2.1 g.2.2)
    have ih := idxS_no (l := r) (s := s) (fun j t ht => hn (j + 1) t (by simpa using ht))
    unfold idxS
    rw [if_neg h0, if_pos ih]
/-- Is a balise passed on the step i? -/
def passB (els : List Elm) (fr head : Int) (i : Nat) (s : Stp) (b : Bls) : Bool := placeB s b && (decide ((i : Int) ≠ fr) || decide (head < placeV els s b))
def passL (els : List Elm) (fr head : Int) (i : Nat) (at_ : Int) (s : Stp) (bals : List Bls) : List Pas := (bals.filter (passB els fr head i s)).map fun b => ⟨at_ + placeV els s b, b.id⟩
theorem passL_step {els : List Elm} {fr head at_ : Int} {i : Nat} {s : Stp} {bals : List Bls} {j : Nat} {b : Bls} (h : bals[j]? = some b) :
    passL els fr head i at_ s (bals.take (j + 1)) = if passB els fr head i s b = true then passL els fr head i at_ s (bals.take j) ++ [⟨at_ + placeV els s b, b.id⟩] else passL els fr head i at_ s (bals.take j) := by
  obtain ⟨hl, rfl⟩ := List.getElem?_eq_some_iff.1 h
  rw [List.take_succ_eq_append_getElem hl]
  unfold passL
  rw [List.filter_append, List.map_append]
  split
  · rename_i hb; simp [hb]
  · rename_i hb; simp [hb]
theorem passL_len (els : List Elm) (fr head at_ : Int) (i : Nat) (s : Stp) (bals : List Bls) : (passL els fr head i at_ s bals).length ≤ bals.length := by
  unfold passL; rw [List.length_map]; exact List.length_filter_le _ _
/-- What is passed on the step i, if it is not before the first one. -/
def passI (els : List Elm) (fr head : Int) (bals : List Bls) (way : List Stp) (i : Nat) : List Pas := if fr ≤ (i : Int) then passL els fr head i (sumL els (way.take i)) (way.getD i Stp.z) bals else []
/-- What is passed on the first k steps. -/
def passT (els : List Elm) (fr head : Int) (bals : List Bls) (way : List Stp) : Nat → List Pas
  | 0 => []
  | k + 1 => passT els fr head bals way k ++ passI els fr head bals way k
theorem passI_len (els : List Elm) (fr head : Int) (bals : List Bls) (way : List Stp) (i : Nat) : (passI els fr head bals way i).length ≤ bals.length := by
  unfold passI; split
  · exact passL_len _ _ _ _ _ _ _
  · simp
theorem passT_len (els : List Elm) (fr head : Int) (bals : List Bls) (way : List Stp) : ∀ k, (passT els fr head bals way k).length ≤ k * bals.length
  | 0 => by simp [passT]
  | k + 1 => by
    have h1 := passT_len els fr head bals way k
    have h2 := passI_len els fr head bals way k
    unfold passT
    rw [List.length_append, Nat.succ_mul]; omega
theorem passI_at {els : List Elm} {fr head : Int} {bals : List Bls} {way : List Stp} {i : Nat} {s : Stp} (h : way[i]? = some s) (hf : fr ≤ (i : Int)) : passI els fr head bals way i = passL els fr head i (sumL els (way.take i)) s bals := by
  unfold passI; rw [if_pos hf, List.getD_eq_getElem?_getD, h]; rfl
theorem passI_no {els : List Elm} {fr head : Int} {bals : List Bls} {way : List Stp} {i : Nat} (hf : ¬ fr ≤ (i : Int)) : passI els fr head bals way i = [] := by unfold passI; rw [if_neg hf]
theorem passL_mem {els : List Elm} {fr head at_ : Int} {i : Nat} {s : Stp} {bals : List Bls} {p : Pas} (h : p ∈ passL els fr head i at_ s bals) : ∃ (j : Nat) (b : Bls), bals[j]? = some b ∧ passB els fr head i s b = true ∧ p = ⟨at_ + placeV els s b, b.id⟩ := by
  unfold passL at h
  obtain ⟨b, hb, rfl⟩ := List.mem_map.1 h
  obtain ⟨h1, h2⟩ := List.mem_filter.1 hb
  obtain ⟨j, hj, rfl⟩ := List.getElem_of_mem h1
  exact ⟨j, bals[j], List.getElem?_eq_getElem hj, h2, rfl⟩
theorem passT_mem {els : List Elm} {fr head : Int} {bals : List Bls} {way : List Stp} {p : Pas} : ∀ {k : Nat}, p ∈ passT els fr head bals way k → k ≤ way.length → ∃ (i : Nat) (s : Stp) (b : Bls) (j : Nat), i < k ∧ way[i]? = some s ∧ (bals[j]? : Option Bls) = some b ∧ fr ≤ (i : Int) ∧ passB els fr head i s b = true ∧ p = ⟨sumL els (way.take i) + placeV els s b, b.id⟩
  | 0, h, _ => by simp [passT] at h
  | k + 1, h, hk => by
    unfold passT at h
    rcases List.mem_append.1 h with h | h
    · obtain ⟨i, s, b, j, h1, h2⟩ := passT_mem h (by omega)
      exact ⟨i, s, b, j, by omega, h2⟩
    · have hlt : k < way.length := by omega
      have hs : way[k]? = some (way[k]'hlt) := List.getElem?_eq_getElem hlt
      by_cases hf : fr ≤ (k : Int)
      · rw [passI_at hs hf] at h
        obtain ⟨j, b, hb, hp, e⟩ := passL_mem h
        exact ⟨k, _, b, j, by omega, hs, hb, hf, hp, e⟩
      · rw [passI_no hf] at h; simp at h
/-- What is read. -/
def reaF (front : Int) (l : List Pas) : List Rea := (l.filter fun p => decide (p.place ≤ front)).map fun p => ⟨p.id, front - p.place⟩
theorem reaF_step {front : Int} {l : List Pas} {j : Nat} {p : Pas} (h : l[j]? = some p) : reaF front (l.take (j + 1)) = if p.place ≤ front then reaF front (l.take j) ++ [⟨p.id, front - p.place⟩] else reaF front (l.take j) := by
  obtain ⟨hl, rfl⟩ := List.getElem?_eq_some_iff.1 h
  rw [List.take_succ_eq_append_getElem hl]
  unfold reaF
  rw [List.filter_append, List.map_append]
  split
  · rename_i hb; simp [hb]
  · rename_i hb; simp [hb]
theorem reaF_len (front : Int) (l : List Pas) : (reaF front l).length ≤ l.length := by unfold reaF; rw [List.length_map]; exact List.length_filter_le _ _
def passA (els : List Elm) (bals : List Bls) (l1 : List Stp) (head1 : Int) (l2 : List Stp) : List Pas := passT els (idxS l2 (lastS l1)) head1 bals l2 l2.length
open Classical in
noncomputable def readsV (els : List Elm) (jts : List Jnt) (bals : List Bls) (l1 : List Stp) (head1 len1 : Int) (l2 : List Stp) (head2 len2 : Int) : List Rea :=
  if chkM els jts l1 head1 len1 = 0 ∧ chkM els jts l2 head2 len2 = 0 then reaF (strV els l2 head2) (sortP (passA els bals l1 head1 l2)) else []
end Sg
