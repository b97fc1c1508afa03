/- Several texts in one: PNum, PProf, PLimit, PJoin, PBrake, PTrain, PSpeeds, POdo, PSup, PCab. -/
namespace Sg

def divE (a b : Int) : Int := if b = 0 then 1 else if a = -9223372036854775808 ∧ b = -1 then 17 else 0
def floV (a b : Int) : Int := if divE a b = 0 then a.fdiv b else 0
def ceiV (a b : Int) : Int := if divE a b = 0 then (if a.tmod b = 0 then a.fdiv b else a.fdiv b + 1) else 0
def clampV (n lo hi : Int) : Int := max lo (min n hi)

theorem divE_zero {a b : Int} (h : divE a b = 0) : b ≠ 0 ∧ ¬ (a = -9223372036854775808 ∧ b = -1) := by
  unfold divE at h
  by_cases hb : b = 0
  · simp [hb] at h
  · refine ⟨hb, fun h2 => ?_⟩
    rw [if_neg hb, if_pos h2] at h
    omega

theorem quo_bd (a b : Int) (ha : -9223372036854775808 ≤ a) (ha2 : a ≤ 9223372036854775807) (hb : b ≠ 0) (h : ¬ (a = -9223372036854775808 ∧ b = -1)) : -9223372036854775808 ≤ a.tdiv b ∧ a.tdiv b ≤ 9223372036854775807 := by
  have h1 := Int.natAbs_tdiv a b
  have h2 : a.natAbs.div b.natAbs ≤ a.natAbs := Nat.div_le_self _ _
  by_cases e : a = -9223372036854775808
  · have hb1 : b ≠ -1 := fun hb1 => h ⟨e, hb1⟩
    by_cases hb2 : b = 1
    · subst hb2; simp; omega
    · have h3 : a.natAbs.div b.natAbs ≤ a.natAbs / 2 := Nat.div_le_div_left (by omega) (by omega)
      omega
  · omega

theorem dvd_tmod {a b : Int} : b ∣ a ↔ a.tmod b = 0 := Int.dvd_iff_tmod_eq_zero

theorem big_of_rest {a b : Int} (hb : b ≠ 0) (hm : a.tmod b ≠ 0) : b ≤ -2 ∨ 2 ≤ b := by
  by_cases h1 : b = 1
  · subst h1; simp at hm
  · by_cases h2 : b = -1
    · subst h2; exfalso; apply hm; rw [← Int.dvd_iff_tmod_eq_zero]; exact ⟨-a, by omega⟩
    · omega

theorem quo_bd2 (a b : Int) (ha : -9223372036854775808 ≤ a) (ha2 : a ≤ 9223372036854775807) (hb : b ≠ 0) (hm : a.tmod b ≠ 0) : -4611686018427387904 ≤ a.tdiv b ∧ a.tdiv b ≤ 4611686018427387904 := by
  have h1 := Int.natAbs_tdiv a b
  have h3 : a.natAbs.div b.natAbs ≤ a.natAbs / 2 := Nat.div_le_div_left (by have := big_of_rest hb hm; omega) (by omega)
  omega

theorem floV_zero {a b : Int} (h : divE a b = 0) (hm : a.tmod b = 0) : floV a b = a.tdiv b := by
  rw [floV, if_pos h, Int.fdiv_eq_tdiv, if_pos (dvd_tmod.2 hm)]; omega
theorem floV_down {a b : Int} (h : divE a b = 0) (hm : a.tmod b ≠ 0) (hs : (a < 0 ∧ 0 ≤ b) ∨ (0 ≤ a ∧ b < 0)) : floV a b = a.tdiv b - 1 := by
  have hb := (divE_zero h).1
  rw [floV, if_pos h, Int.fdiv_eq_tdiv, if_neg (fun hd => hm (dvd_tmod.1 hd))]
  rcases hs with ⟨h1, h2⟩ | ⟨h1, h2⟩
  · rw [if_neg (by omega), if_pos h2, Int.sign_eq_one_of_pos (by omega)]
  · rw [if_pos h1, if_neg (by omega)]
theorem floV_same {a b : Int} (h : divE a b = 0) (hm : a.tmod b ≠ 0) (hs : (a < 0 ∧ b < 0) ∨ (0 ≤ a ∧ 0 ≤ b)) : floV a b = a.tdiv b := by
  rw [floV, if_pos h, Int.fdiv_eq_tdiv, if_neg (fun hd => hm (dvd_tmod.1 hd))]
  rcases hs with ⟨h1, h2⟩ | ⟨h1, h2⟩
  · rw [if_neg (by omega), if_neg (by omega), Int.sign_eq_neg_one_of_neg h2]; omega
  · rw [if_pos h1, if_pos h2]; omega
theorem floV_bad {a b : Int} (h : divE a b ≠ 0) : floV a b = 0 := by rw [floV, if_neg h]
theorem ceiV_bad {a b : Int} (h : divE a b ≠ 0) : ceiV a b = 0 := by rw [ceiV, if_neg h]
theorem ceiV_zero {a b : Int} (h : divE a b = 0) (hm : a.tmod b = 0) : ceiV a b = a.tdiv b := by
  rw [ceiV, if_pos h, if_pos hm, ← floV_zero h hm, floV, if_pos h]
theorem ceiV_up {a b : Int} (h : divE a b = 0) (hm : a.tmod b ≠ 0) : ceiV a b = floV a b + 1 := by
  rw [ceiV, if_pos h, if_neg hm, floV, if_pos h]

theorem floV_pos {a b : Int} (hb : 0 < b) : floV a b = a / b := by
  have h : divE a b = 0 := by unfold divE; rw [if_neg (by omega), if_neg (by omega)]
  rw [floV, if_pos h, Int.fdiv_eq_ediv_of_nonneg _ (by omega)]
theorem divE_pos {a b : Int} (hb : 0 < b) : divE a b = 0 := by unfold divE; rw [if_neg (by omega), if_neg (by omega)]

theorem clampV_le {n lo hi : Int} (h : lo ≤ hi) : lo ≤ clampV n lo hi ∧ clampV n lo hi ≤ hi := by unfold clampV; omega
def IsRoot (n r : Int) : Prop := 0 ≤ r ∧ r ≤ 3037000499 ∧ (n < 1 → r = 0) ∧ (1 ≤ n → r * r ≤ n ∧ n < (r + 1) * (r + 1))
theorem sq_bd {n c : Int} (hn : n ≤ 9223372036854775807) (hc : 0 ≤ c) (h : c * c ≤ n) : c ≤ 3037000499 := by
  by_cases h2 : c ≤ 3037000499
  · exact h2
  · have h3 : 3037000500 ≤ c := by omega
    have := Int.mul_le_mul h3 h3 (by omega) (by omega)
    omega
theorem sq_lt (c : Int) (hc : 0 ≤ c) : c * c < (c + 1) * (c + 1) := by grind
theorem le_quo {n c : Int} (hc : 0 < c) : c ≤ n / c ↔ c * c ≤ n := Int.le_ediv_iff_mul_le hc
theorem flo_rest {a b : Int} (h : divE a b = 0) : (0 < b → 0 ≤ a - floV a b * b ∧ a - floV a b * b < b) ∧ (b < 0 → b < a - floV a b * b ∧ a - floV a b * b ≤ 0) ∧ (a - floV a b * b = 0 ↔ a.tmod b = 0) := by
  have hb := (divE_zero h).1
  have e : a - floV a b * b = a.fmod b := by rw [Int.fmod_def, floV, if_pos h, Int.mul_comm]
  rw [e]
  refine ⟨fun hp => ⟨Int.fmod_nonneg_of_pos _ hp, Int.fmod_lt_of_pos _ hp⟩, fun hn => ?_, ?_⟩
  · have h1 := Int.mul_fdiv_add_fmod a b
    have h2 : (-a).fmod (-b) = - a.fmod b := by simp
    have h3 := Int.fmod_nonneg_of_pos (-a) (show 0 < -b by omega)
    have h4 := Int.fmod_lt_of_pos (-a) (show 0 < -b by omega)
    omega
  · rw [← Int.dvd_iff_fmod_eq_zero, Int.dvd_iff_tmod_eq_zero]
theorem root_eq {n r s : Int} (h : IsRoot n r) (hn : 1 ≤ n) (hs : 0 ≤ s) (h1 : s * s ≤ n) (h2 : n < (s + 1) * (s + 1)) : r = s := by
  obtain ⟨h0, _, _, h3⟩ := h
  obtain ⟨h4, h5⟩ := h3 hn
  by_cases hlt : r < s
  · have := Int.mul_le_mul (show r + 1 ≤ s by omega) (show r + 1 ≤ s by omega) (by omega) (by omega)
    omega
  · by_cases hgt : s < r
    · have := Int.mul_le_mul (show s + 1 ≤ r by omega) (show s + 1 ≤ r by omega) (by omega) (by omega)
      omega
    · omega
theorem floV_bd {a b : Int} (ha : -9223372036854775808 ≤ a) (ha2 : a ≤ 9223372036854775807) (h : divE a b = 0) : -9223372036854775808 ≤ floV a b ∧ floV a b ≤ 9223372036854775807 ∧ -9223372036854775808 ≤ ceiV a b ∧ ceiV a b ≤ 9223372036854775807 := by
  obtain ⟨hb, h17⟩ := divE_zero h
  by_cases hm : a.tmod b = 0
  · rw [floV_zero h hm, ceiV_zero h hm]
    have := quo_bd a b ha ha2 hb h17
    omega
  · have hq := quo_bd2 a b ha ha2 hb hm
    have hc := ceiV_up h hm
    by_cases hs : (a < 0 ∧ 0 ≤ b) ∨ (0 ≤ a ∧ b < 0)
    · have := floV_down h hm hs; omega
    · have := floV_same h hm (by omega); omega
def backL (xs : List Int) (k : Nat) : List Int := (List.range k).map fun i => xs.getD (xs.length - 1 - i) 0
def turnL (xs : List Int) (a k : Nat) : List Int := (List.range k).map fun i => xs.getD ((i + a) % xs.length) 0
theorem backL_len (xs : List Int) (k : Nat) : (backL xs k).length = k := by simp [backL]
theorem turnL_len (xs : List Int) (a k : Nat) : (turnL xs a k).length = k := by simp [turnL]
theorem backL_succ (xs : List Int) (k : Nat) : backL xs (k + 1) = backL xs k ++ [xs.getD (xs.length - 1 - k) 0] := by simp [backL, List.range_succ]
theorem turnL_succ (xs : List Int) (a k : Nat) : turnL xs a (k + 1) = turnL xs a k ++ [xs.getD ((k + a) % xs.length) 0] := by simp [turnL, List.range_succ]
theorem backL_all (xs : List Int) : backL xs xs.length = xs.reverse := by
  apply List.ext_getElem
  · simp [backL_len]
  · intro i h1 h2
    simp [backL] at h1 ⊢
    rw [List.getElem?_eq_getElem (by omega)]; rfl
theorem turnL_all (xs : List Int) (a : Nat) (h : a < xs.length) : turnL xs a xs.length = xs.drop a ++ xs.take a := by
  apply List.ext_getElem
  · simp [turnL_len]; omega
  · intro i h1 h2
    simp [turnL] at h1 ⊢
    by_cases hi : i + a < xs.length
    · rw [List.getElem_append_left (by simp; omega), Nat.mod_eq_of_lt hi, List.getElem?_eq_getElem hi, List.getElem_drop]
      simp [Nat.add_comm]
    · rw [List.getElem_append_right (by simp; omega), List.getElem_take]
      have e : (i + a) % xs.length = i + a - xs.length := by rw [Nat.mod_eq_sub_mod (by omega), Nat.mod_eq_of_lt (by omega)]
      rw [e, List.getElem?_eq_getElem (by omega)]
      simp
      congr 1; omega
theorem turnL_sum (xs : List Int) (a : Nat) (h : a < xs.length) : (turnL xs a xs.length).sum = xs.sum := by
  have e := congrArg List.sum (List.take_append_drop a xs)
  rw [List.sum_append] at e
  rw [turnL_all _ _ h, List.sum_append]; omega
theorem backL_sum (xs : List Int) : (backL xs xs.length).sum = xs.sum := by
  rw [backL_all]; exact List.sum_reverse xs
end Sg

set_option linter.unusedVariables false
set_option linter.unusedSimpArgs false
namespace Sg

/-- A segment. -/
structure Sgm where
  from_ : Int
  to_ : Int
  grade : Int
  speed : Int
def Sgm.z : Sgm := ⟨0, 0, 0, 0⟩
theorem Sgm.eq {a b : Sgm} (h1 : a.from_ = b.from_) (h2 : a.to_ = b.to_) (h3 : a.grade = b.grade) (h4 : a.speed = b.speed) : a = b := by
  cases a; cases b; simp_all
def sgmB (a b : Sgm) : Bool := a.from_ == b.from_ && (a.to_ == b.to_ && (a.grade == b.grade && a.speed == b.speed))
theorem sgmB_true {a b : Sgm} : sgmB a b = true ↔ a = b := by
  unfold sgmB
  simp only [Bool.and_eq_true, beq_iff_eq]
  exact ⟨fun ⟨h1, h2, h3, h4⟩ => Sgm.eq h1 h2 h3 h4, fun h => by subst h; simp⟩
def SegOk (s : Sgm) : Prop := -1073741824 ≤ s.from_ ∧ s.from_ < s.to_ ∧ s.to_ ≤ 1073741824 ∧ -50 ≤ s.grade ∧ s.grade ≤ 50 ∧ 1 ≤ s.speed ∧ s.speed ≤ 10000
def LinkOk (p : List Sgm) (i : Nat) : Prop := i = 0 ∨ (p.getD i Sgm.z).from_ = (p.getD (i - 1) Sgm.z).to_
def ValidTo (p : List Sgm) (k : Nat) : Prop := ∀ i, i < k → SegOk (p.getD i Sgm.z) ∧ LinkOk p i
def Valid (p : List Sgm) : Prop := p.length ≤ 128 ∧ ValidTo p p.length
open Classical in
noncomputable def validB (p : List Sgm) : Bool := decide (Valid p)
theorem validB_true {p : List Sgm} : validB p = true ↔ Valid p := by simp [validB]
theorem validB_false {p : List Sgm} : validB p = false ↔ ¬ Valid p := by simp [validB]
theorem validTo_zero (p : List Sgm) : ValidTo p 0 := fun i h => absurd h (by omega)
theorem validTo_succ {p : List Sgm} {k : Nat} (h : ValidTo p k) (h1 : SegOk (p.getD k Sgm.z)) (h2 : LinkOk p k) : ValidTo p (k + 1) := fun i hi => by
  by_cases e : i = k
  · subst e; exact ⟨h1, h2⟩
  · exact h i (by omega)
theorem not_valid {p : List Sgm} {k : Nat} (hk : k < p.length) (h : ¬ (SegOk (p.getD k Sgm.z) ∧ LinkOk p k)) : ¬ Valid p := fun hv => h (hv.2 k hk)
theorem getD_of {p : List Sgm} {k : Nat} {s : Sgm} (h : p[k]? = some s) : p.getD k Sgm.z = s := by rw [List.getD_eq_getElem?_getD, h]; rfl

/-- The segment at a coordinate. -/
def hitB (x : Int) (s : Sgm) : Bool := decide (s.from_ ≤ x) && decide (x < s.to_)
open Classical in
noncomputable def atO (p : List Sgm) (x : Int) : Option Sgm := if validB p = true then p.find? (hitB x) else none
noncomputable def atS (p : List Sgm) (x : Int) : Sgm := (atO p x).getD Sgm.z
noncomputable def atB (p : List Sgm) (x : Int) : Bool := (atO p x).isSome
theorem atO_hit {p : List Sgm} {x : Int} {k : Nat} {s : Sgm} (hv : validB p = true) (hk : p[k]? = some s) (hn : ∀ j t, j < k → p[j]? = some t → hitB x t = false) (h : hitB x s = true) : atO p x = some s := by
  rw [atO, if_pos hv, List.find?_eq_some_iff_append]
  refine ⟨h, p.take k, p.drop (k + 1), ?_, fun t ht => ?_⟩
  · have hk' := List.getElem?_eq_some_iff.1 hk
    obtain ⟨hl, rfl⟩ := hk'
    rw [List.getElem_cons_drop hl, List.take_append_drop]
  · obtain ⟨j, hj, rfl⟩ := List.getElem_of_mem ht
    have hj' : j < k := by simp at hj; omega
    rw [List.getElem_take]
    simp [hn j _ hj' (List.getElem?_eq_getElem (by simp at hj; omega))]
theorem atO_none {p : List Sgm} {x : Int} (h : validB p = false ∨ ∀ (j : Nat) (t : Sgm), p[j]? = some t → hitB x t = false) : atO p x = none := by
  rw [atO]
  split
  · rename_i hv
    rcases h with h | h
    · rw [h] at hv; cases hv
    · rw [List.find?_eq_none]
      intro t ht
      obtain ⟨j, hj, rfl⟩ := List.getElem_of_mem ht
      simp [h j _ (List.getElem?_eq_getElem hj)]
  · rfl

/-- The least of several numbers, 0 if there is none. -/
def leastL : List Int → Int
  | [] => 0
  | a :: r => r.foldl min a
theorem leastL_snoc (l : List Int) (v : Int) : leastL (l ++ [v]) = if l = [] then v else min (leastL l) v := by
  cases l with
  | nil => rfl
  | cons a r => simp [leastL]
def touchB (f t : Int) (s : Sgm) : Bool := decide (s.from_ ≤ t) && decide (f ≤ s.to_)
noncomputable def touL (p : List Sgm) (f t : Int) : List Sgm := if validB p = true then p.filter (touchB f t) else []
noncomputable def slowV (p : List Sgm) (f t : Int) : Int := leastL ((touL p f t).map Sgm.speed)
noncomputable def steepV (p : List Sgm) (f t : Int) : Int := leastL ((touL p f t).map Sgm.grade)
theorem filter_take {p : List Sgm} {g : Sgm → Bool} {k : Nat} {s : Sgm} (h : p[k]? = some s) : (p.take (k + 1)).filter g = (p.take k).filter g ++ (if g s = true then [s] else []) := by
  obtain ⟨hl, rfl⟩ := List.getElem?_eq_some_iff.1 h
  rw [List.take_succ_eq_append_getElem hl, List.filter_append]
  congr 1
  by_cases hg : g p[k] = true <;> simp [hg]
/-- The part of a segment in a range. -/
def partS (f t : Int) (s : Sgm) : Sgm := ⟨max s.from_ f, min s.to_ t, s.grade, s.speed⟩
def partB (f t : Int) (s : Sgm) : Bool := decide ((partS f t s).from_ < (partS f t s).to_)
def cutF (f t : Int) (p : List Sgm) : List Sgm := (p.filter (partB f t)).map (partS f t)
noncomputable def cutL (p : List Sgm) (f t : Int) : List Sgm := if validB p = true then cutF f t p else []
theorem cutF_take {p : List Sgm} {f t : Int} {k : Nat} {s : Sgm} (h : p[k]? = some s) : cutF f t (p.take (k + 1)) = cutF f t (p.take k) ++ (if partB f t s = true then [partS f t s] else []) := by
  unfold cutF
  rw [filter_take h, List.map_append]
  congr 1
  split <;> simp
theorem cutF_len (f t : Int) (p : List Sgm) : (cutF f t p).length ≤ p.length := by
  unfold cutF; rw [List.length_map]; exact List.length_filter_le _ _
theorem touL_len (p : List Sgm) (f t : Int) : (touL p f t).length ≤ p.length := by
  unfold touL; split
  · exact List.length_filter_le _ _
  · simp
end Sg

set_option linter.unusedVariables false
set_option linter.unusedSimpArgs false
namespace Sg

/-- Segments that follow one another from a to b. -/
def Ch : Int → List Sgm → Int → Prop
  | a, [], b => a = b
  | a, s :: r, b => s.from_ = a ∧ SegOk s ∧ Ch s.to_ r b
theorem Ch.le : ∀ {p : List Sgm} {a b : Int}, Ch a p b → a ≤ b
  | [], a, b, h => by have : a = b := h; omega
  | s :: r, a, b, ⟨h1, h2, h3⟩ => by have := Ch.le h3; obtain ⟨_, h4, _⟩ := h2; omega
theorem Ch.append : ∀ {p q : List Sgm} {a b c : Int}, Ch a p b → Ch b q c → Ch a (p ++ q) c
  | [], q, a, b, c, h, g => by have : a = b := h; subst this; exact g
  | s :: r, q, a, b, c, ⟨h1, h2, h3⟩, g => ⟨h1, h2, Ch.append h3 g⟩
theorem Ch.ok : ∀ {p : List Sgm} {a b : Int}, Ch a p b → ∀ s ∈ p, SegOk s
  | [], _, _, _, s, h => by cases h
  | t :: r, a, b, ⟨_, h2, h3⟩, s, h => by
    rcases List.mem_cons.1 h with rfl | h
    · exact h2
    · exact Ch.ok h3 s h
theorem Ch.validTo : ∀ {p : List Sgm} {a b : Int}, Ch a p b → ∀ i, i < p.length → SegOk (p.getD i Sgm.z) ∧ (i ≠ 0 → (p.getD i Sgm.z).from_ = (p.getD (i - 1) Sgm.z).to_) ∧ (i = 0 → (p.getD i Sgm.z).from_ = a)
  | [], _, _, _, i, h => by simp at h
  | s :: r, a, b, ⟨h1, h2, h3⟩, 0, _ => ⟨by simpa using h2, fun h => absurd rfl h, fun _ => by simpa using h1⟩
  | s :: r, a, b, ⟨h1, h2, h3⟩, i + 1, h => by
    have ih := Ch.validTo h3 i (by simpa using h)
    refine ⟨by simpa using ih.1, fun _ => ?_, fun h => by omega⟩
    by_cases hi : i = 0
    · subst hi; have := ih.2.2 rfl; simpa using this
    · have := ih.2.1 hi
      obtain ⟨j, rfl⟩ : ∃ j, i = j + 1 := ⟨i - 1, by omega⟩
      simpa using this
theorem Ch.of_valid : ∀ {p : List Sgm} {a : Int}, (∀ i, i < p.length → SegOk (p.getD i Sgm.z) ∧ (i ≠ 0 → (p.getD i Sgm.z).from_ = (p.getD (i - 1) Sgm.z).to_) ∧ (i = 0 → (p.getD i Sgm.z).from_ = a)) → ∃ b, Ch a p b
  | [], a, _ => ⟨a, rfl⟩
  | s :: r, a, h => by
    have h0 := h 0 (by simp)
    obtain ⟨b, hb⟩ := Ch.of_valid (p := r) (a := s.to_) (fun i hi => by
      have h1 := h (i + 1) (by simpa using hi)
      refine ⟨by simpa using h1.1, fun hn => ?_, fun he => ?_⟩
      · have := h1.2.1 (by omega)
        obtain ⟨j, rfl⟩ : ∃ j, i = j + 1 := ⟨i - 1, by omega⟩
        simpa using this
      · subst he; have := h1.2.1 (by omega); simpa using this)
    exact ⟨b, by simpa using h0.2.2 rfl, by simpa using h0.1, hb⟩
def headF (p : List Sgm) : Int := (p.getD 0 Sgm.z).from_
theorem ch_of {p : List Sgm} (h : Valid p) : ∃ b, Ch (headF p) p b :=
  Ch.of_valid fun i hi => ⟨(h.2 i hi).1, fun hn => (h.2 i hi).2.resolve_left hn, fun he => by subst he; rfl⟩
theorem valid_of {p : List Sgm} {a b : Int} (h : Ch a p b) (hl : p.length ≤ 128) : Valid p :=
  ⟨hl, fun i hi => ⟨(h.validTo i hi).1, by
    by_cases e : i = 0
    · exact .inl e
    · exact .inr ((h.validTo i hi).2.1 e)⟩⟩

/-- What Limit makes of one segment. -/
def lenB (s : Sgm) : Bool := decide (s.from_ < s.to_)
def befS (f t : Int) (s : Sgm) : Sgm := ⟨s.from_, max s.from_ f, s.grade, s.speed⟩
def midS (f t v : Int) (s : Sgm) : Sgm := ⟨max s.from_ f, min s.to_ t, s.grade, min s.speed v⟩
def aftS (f t : Int) (s : Sgm) : Sgm := ⟨min s.to_ t, s.to_, s.grade, s.speed⟩
def limS (f t v : Int) (s : Sgm) : List Sgm := if partB f t s = true then [befS f t s, midS f t v s, aftS f t s].filter lenB else [s]
def limF (f t v : Int) (p : List Sgm) : List Sgm := p.flatMap (limS f t v)
noncomputable def limL (p : List Sgm) (f t v : Int) : List Sgm := if validB p = true ∧ 1 ≤ v then (if (limF f t v p).length ≤ 128 then limF f t v p else []) else []
theorem partB_iff {f t : Int} {s : Sgm} : partB f t s = true ↔ max s.from_ f < min s.to_ t := decide_eq_true_iff
theorem lb1 {f t : Int} {s : Sgm} : lenB (befS f t s) = true ↔ s.from_ < max s.from_ f := decide_eq_true_iff
theorem lb2 {f t v : Int} {s : Sgm} : lenB (midS f t v s) = true ↔ max s.from_ f < min s.to_ t := decide_eq_true_iff
theorem lb3 {f t : Int} {s : Sgm} : lenB (aftS f t s) = true ↔ min s.to_ t < s.to_ := decide_eq_true_iff
theorem hb0 {y : Int} {s : Sgm} : hitB y s = true ↔ s.from_ ≤ y ∧ y < s.to_ := by unfold hitB; rw [Bool.and_eq_true, decide_eq_true_iff, decide_eq_true_iff]
theorem bf {b : Bool} : b = false ↔ ¬ b = true := by cases b <;> simp
theorem limS_ch {f t v : Int} {s : Sgm} (h : SegOk s) (hv : 1 ≤ v) : Ch s.from_ (limS f t v s) s.to_ := by
  unfold limS
  obtain ⟨g1, g2, g3, g4, g5, g6, g7⟩ := h
  split
  · rename_i hp
    rw [partB_iff] at hp
    have e2 : lenB (midS f t v s) = true := lb2.2 hp
    have om : SegOk (midS f t v s) := ⟨show _ ≤ max s.from_ f by omega, hp, show min s.to_ t ≤ _ by omega, g4, g5, show 1 ≤ min s.speed v by omega, show min s.speed v ≤ _ by omega⟩
    by_cases c1 : lenB (befS f t s) = true
    · have c1' := lb1.1 c1
      have ob : SegOk (befS f t s) := ⟨g1, c1', show max s.from_ f ≤ _ by omega, g4, g5, g6, g7⟩
      by_cases c3 : lenB (aftS f t s) = true
      · have c3' := lb3.1 c3
        have oa : SegOk (aftS f t s) := ⟨show _ ≤ min s.to_ t by omega, c3', g3, g4, g5, g6, g7⟩
        simp only [List.filter_cons, c1, e2, c3, if_true, List.filter_nil]
        exact ⟨rfl, ob, rfl, om, rfl, oa, rfl⟩
      · have c3' : lenB (aftS f t s) = false := bf.2 c3
        rw [lb3] at c3
        simp only [List.filter_cons, c1, e2, c3', if_true, List.filter_nil]
        exact ⟨rfl, ob, rfl, om, show min s.to_ t = s.to_ by omega⟩
    · have c1' : lenB (befS f t s) = false := bf.2 c1
      rw [lb1] at c1
      by_cases c3 : lenB (aftS f t s) = true
      · have c3' := lb3.1 c3
        have oa : SegOk (aftS f t s) := ⟨show _ ≤ min s.to_ t by omega, c3', g3, g4, g5, g6, g7⟩
        simp only [List.filter_cons, c1', e2, c3, if_true, List.filter_nil]
        exact ⟨show max s.from_ f = s.from_ by omega, om, rfl, oa, rfl⟩
      · have c3' : lenB (aftS f t s) = false := bf.2 c3
        rw [lb3] at c3
        simp only [List.filter_cons, c1', e2, c3', if_true, List.filter_nil]
        exact ⟨show max s.from_ f = s.from_ by omega, om, show min s.to_ t = s.to_ by omega⟩
  · exact ⟨rfl, ⟨g1, g2, g3, g4, g5, g6, g7⟩, rfl⟩
theorem limF_ch {f t v : Int} (hv : 1 ≤ v) : ∀ {p : List Sgm} {a b : Int}, Ch a p b → Ch a (limF f t v p) b
  | [], _, _, h => h
  | s :: r, a, b, ⟨h1, h2, h3⟩ => by
    subst h1
    exact (limS_ch h2 hv).append (limF_ch hv h3)
theorem limS_len (f t v : Int) (s : Sgm) : (limS f t v s).length ≤ 3 := by
  unfold limS; split
  · have := List.length_filter_le lenB [befS f t s, midS f t v s, aftS f t s]; simpa using this
  · simp
theorem limS_len2 (f t v : Int) (s : Sgm) : (limS f t v s).length ≤ 1 + (if s.from_ < f ∧ f < s.to_ then 1 else 0) + (if s.from_ < t ∧ t < s.to_ then 1 else 0) := by
  unfold limS; split
  · rename_i hp
    rw [partB_iff] at hp
    have e2 : lenB (midS f t v s) = true := lb2.2 hp
    have n1 : [befS f t s].filter lenB = [] ∨ (s.from_ < f ∧ f < s.to_) := by
      by_cases c : lenB (befS f t s) = true
      · have := lb1.1 c; right; omega
      · left; simp [bf.2 c]
    have n3 : [aftS f t s].filter lenB = [] ∨ (s.from_ < t ∧ t < s.to_) := by
      by_cases c : lenB (aftS f t s) = true
      · have := lb3.1 c; right; omega
      · left; simp [bf.2 c]
    have m1 := List.length_filter_le lenB [befS f t s]
    have m3 := List.length_filter_le lenB [aftS f t s]
    have e : [befS f t s, midS f t v s, aftS f t s].filter lenB = [befS f t s].filter lenB ++ ([midS f t v s].filter lenB ++ [aftS f t s].filter lenB) := by
      rw [← List.filter_append, ← List.filter_append]; rfl
    have m2 := List.length_filter_le lenB [midS f t v s]
    rw [e, List.length_append, List.length_append]
    simp only [List.length_cons, List.length_nil] at m1 m2 m3
    rcases n1 with n1 | n1 <;> rcases n3 with n3 | n3
    · rw [n1, n3]; simp only [List.length_nil]; omega
    · rw [n1, if_pos n3]; simp only [List.length_nil]; omega
    · rw [n3, if_pos n1]; simp only [List.length_nil]; omega
    · rw [if_pos n1, if_pos n3]; omega
  · simp only [List.length_cons, List.length_nil]; omega
theorem limF_len {f t v : Int} : ∀ {p : List Sgm} {a b : Int}, Ch a p b → (limF f t v p).length ≤ p.length + (if a < f then 1 else 0) + (if a < t then 1 else 0)
  | [], _, _, _ => by simp [limF]
  | s :: r, a, b, ⟨h1, h2, h3⟩ => by
    have ih := limF_len (f := f) (t := t) (v := v) h3
    have hs := limS_len2 f t v s
    have e : limF f t v (s :: r) = limS f t v s ++ limF f t v r := rfl
    obtain ⟨_, hlt, _⟩ := h2
    subst h1
    rw [e, List.length_append, List.length_cons]
    by_cases a1 : s.from_ < f <;> by_cases a2 : f < s.to_ <;> by_cases a3 : s.to_ < f <;> by_cases b1 : s.from_ < t <;> by_cases b2 : t < s.to_ <;> by_cases b3 : s.to_ < t <;> simp only [a1, a2, a3, b1, b2, b3, and_self, and_true, and_false, false_and, if_true, if_false] at ih hs ⊢ <;> omega
theorem limF_len3 (f t v : Int) (p : List Sgm) : (limF f t v p).length ≤ 3 * p.length := by
  induction p with
  | nil => simp [limF]
  | cons s r ih =>
    have e : limF f t v (s :: r) = limS f t v s ++ limF f t v r := rfl
    have := limS_len f t v s
    rw [e, List.length_append, List.length_cons]; omega
theorem limF_take {f t v : Int} {p : List Sgm} {k : Nat} {s : Sgm} (h : p[k]? = some s) : limF f t v (p.take (k + 1)) = limF f t v (p.take k) ++ limS f t v s := by
  obtain ⟨hl, rfl⟩ := List.getElem?_eq_some_iff.1 h
  rw [List.take_succ_eq_append_getElem hl]
  unfold limF
  rw [List.flatMap_append]
  simp
theorem limS_idem {f t v : Int} {s : Sgm} (h : s.from_ < s.to_) : ∀ u ∈ limS f t v s, limS f t v u = [u] := by
  intro u hu
  have part_no : ∀ u : Sgm, ¬ (max u.from_ f < min u.to_ t) → limS f t v u = [u] := fun u hn => by
    unfold limS; rw [if_neg (by rw [partB_iff]; exact hn)]
  unfold limS at hu
  split at hu
  · rename_i hp
    rw [partB_iff] at hp
    rw [List.mem_filter] at hu
    obtain ⟨hu, hl⟩ := hu
    simp only [List.mem_cons, List.not_mem_nil, or_false] at hu
    rcases hu with rfl | rfl | rfl
    · refine part_no _ ?_; have := lb1.1 hl; show ¬ (max s.from_ f < min (max s.from_ f) t); omega
    · have hm : max (midS f t v s).from_ f < min (midS f t v s).to_ t := by simp [midS]; omega
      unfold limS
      rw [if_pos (by rw [partB_iff]; exact hm)]
      have e1 : lenB (befS f t (midS f t v s)) = false := by rw [bf, lb1]; show ¬ (max s.from_ f < max (max s.from_ f) f); omega
      have e2 : lenB (midS f t v (midS f t v s)) = true := by rw [lb2]; exact hm
      have e3 : lenB (aftS f t (midS f t v s)) = false := by rw [bf, lb3]; show ¬ (min (min s.to_ t) t < min s.to_ t); omega
      simp only [List.filter_cons, e1, e2, e3, if_true, List.filter_nil]
      exact congrArg (fun x => [x]) (Sgm.eq (show max (max s.from_ f) f = max s.from_ f by omega) (show min (min s.to_ t) t = min s.to_ t by omega) rfl (show min (min s.speed v) v = min s.speed v by omega))
    · refine part_no _ ?_; have := lb3.1 hl; show ¬ (max (min s.to_ t) f < min s.to_ t); omega
  · simp at hu; subst hu; rename_i hp; exact part_no _ (by rw [← partB_iff]; exact hp)
theorem limF_idem {f t v : Int} : ∀ {p : List Sgm}, (∀ s ∈ p, s.from_ < s.to_) → limF f t v (limF f t v p) = limF f t v p
  | [], _ => rfl
  | s :: r, h => by
    have e : limF f t v (s :: r) = limS f t v s ++ limF f t v r := rfl
    have hs : ∀ l : List Sgm, (∀ u ∈ l, limS f t v u = [u]) → limF f t v l = l := fun l => by
      induction l with
      | nil => intro _; rfl
      | cons u l ih =>
        intro hl
        have e2 : limF f t v (u :: l) = limS f t v u ++ limF f t v l := rfl
        rw [e2, hl u (by simp), ih (fun x hx => hl x (by simp [hx]))]; rfl
    have e3 : ∀ l m : List Sgm, limF f t v (l ++ m) = limF f t v l ++ limF f t v m := fun l m => by unfold limF; rw [List.flatMap_append]
    rw [e, e3, hs _ (limS_idem (h s (by simp))), limF_idem (fun u hu => h u (by simp [hu]))]
theorem valid_one {s : Sgm} (h : SegOk s) : validB [s] = true := validB_true.2 ⟨by simp, fun i hi => by
  have : i = 0 := by simp at hi; omega
  subst this; exact ⟨h, .inl rfl⟩⟩
theorem cut_one {s : Sgm} (h : SegOk s) (f t : Int) : cutL [s] f t = if partB f t s = true then [partS f t s] else [] := by
  rw [cutL, if_pos (valid_one h)]; unfold cutF; rw [List.filter_cons]; split <;> rfl
theorem cut_before {s : Sgm} (h : SegOk s) {f t : Int} (hp : partB f t s = true) : cutL [s] (-1073741824) f = [befS f t s].filter lenB := by
  rw [cut_one h, List.filter_cons, List.filter_nil]
  rw [partB_iff] at hp
  obtain ⟨h1, h2, h3, _⟩ := h
  by_cases c : s.from_ < f
  · rw [if_pos (partB_iff.2 (by omega)), if_pos (lb1.2 (by omega))]
    exact congrArg (fun x => [x]) (Sgm.eq (show max s.from_ (-1073741824) = s.from_ by omega) (show min s.to_ f = max s.from_ f by omega) rfl rfl)
  · rw [if_neg (fun k => by rw [partB_iff] at k; omega), if_neg (fun k => by rw [lb1] at k; omega)]
theorem cut_after {s : Sgm} (h : SegOk s) {f t : Int} (hp : partB f t s = true) : cutL [s] t 1073741824 = [aftS f t s].filter lenB := by
  rw [cut_one h, List.filter_cons, List.filter_nil]
  rw [partB_iff] at hp
  obtain ⟨h1, h2, h3, _⟩ := h
  by_cases c : t < s.to_
  · rw [if_pos (partB_iff.2 (by omega)), if_pos (lb3.2 (by omega))]
    exact congrArg (fun x => [x]) (Sgm.eq (show max s.from_ t = min s.to_ t by omega) (show min s.to_ 1073741824 = s.to_ by omega) rfl rfl)
  · rw [if_neg (fun k => by rw [partB_iff] at k; omega), if_neg (fun k => by rw [lb3] at k; omega)]
theorem lim_three {s : Sgm} {f t v : Int} (hp : partB f t s = true) : limS f t v s = [befS f t s].filter lenB ++ ([midS f t v s] ++ [aftS f t s].filter lenB) := by
  rw [limS, if_pos hp]
  have e2 : lenB (midS f t v s) = true := lb2.2 (partB_iff.1 hp)
  have e : [midS f t v s] = [midS f t v s].filter lenB := by simp [e2]
  rw [e, ← List.filter_append, ← List.filter_append]; rfl
/-- What is found at a coordinate. -/
def lowP (f t v y : Int) (s u : Sgm) : Prop := u.grade = s.grade ∧ u.speed = if f ≤ y ∧ y < t then min s.speed v else s.speed
theorem limS_at {f t v y : Int} {s : Sgm} (h : s.from_ < s.to_) : if hitB y s = true then ∃ u, (limS f t v s).find? (hitB y) = some u ∧ lowP f t v y s u else (limS f t v s).find? (hitB y) = none := by
  unfold limS
  by_cases hp : partB f t s = true
  · rw [if_pos hp]
    rw [partB_iff] at hp
    have e2 : lenB (midS f t v s) = true := lb2.2 hp
    by_cases hy : hitB y s = true
    · rw [if_pos hy]
      have hy' := hb0.1 hy
      by_cases c1 : y < f
      · refine ⟨befS f t s, ?_, ?_⟩
        · have e1 : lenB (befS f t s) = true := lb1.2 (by omega)
          have e4 : hitB y (befS f t s) = true := hb0.2 ⟨hy'.1, show y < max s.from_ f by omega⟩
          simp only [List.filter_cons, e1, if_true, List.find?_cons, e4]
        · refine ⟨rfl, ?_⟩; rw [if_neg (by omega)]; rfl
      · by_cases c2 : y < t
        · refine ⟨midS f t v s, ?_, ?_⟩
          · have e4 : hitB y (befS f t s) = false := by rw [bf, hb0]; show ¬ (s.from_ ≤ y ∧ y < max s.from_ f); omega
            have e5 : hitB y (midS f t v s) = true := hb0.2 ⟨show max s.from_ f ≤ y by omega, show y < min s.to_ t by omega⟩
            simp only [List.filter_cons, e2, if_true]
            split <;> simp only [List.find?_cons, e4, e5]
          · refine ⟨rfl, ?_⟩; rw [if_pos (by omega)]; rfl
        · refine ⟨aftS f t s, ?_, ?_⟩
          · have e4 : hitB y (befS f t s) = false := by rw [bf, hb0]; show ¬ (s.from_ ≤ y ∧ y < max s.from_ f); omega
            have e5 : hitB y (midS f t v s) = false := by rw [bf, hb0]; show ¬ (max s.from_ f ≤ y ∧ y < min s.to_ t); omega
            have e6 : hitB y (aftS f t s) = true := hb0.2 ⟨show min s.to_ t ≤ y by omega, hy'.2⟩
            have e3 : lenB (aftS f t s) = true := lb3.2 (by omega)
            simp only [List.filter_cons, e2, e3, if_true]
            split <;> simp only [List.find?_cons, e4, e5, e6]
          · refine ⟨rfl, ?_⟩; rw [if_neg (by omega)]; rfl
    · rw [if_neg hy]
      have hy' : ¬ (s.from_ ≤ y ∧ y < s.to_) := fun h => hy (hb0.2 h)
      rw [List.find?_eq_none]
      intro u hu
      rw [List.mem_filter] at hu
      obtain ⟨hu, _⟩ := hu
      simp only [List.mem_cons, List.not_mem_nil, or_false] at hu
      rcases hu with rfl | rfl | rfl
      · rw [hb0]; show ¬ (s.from_ ≤ y ∧ y < max s.from_ f); omega
      · rw [hb0]; show ¬ (max s.from_ f ≤ y ∧ y < min s.to_ t); omega
      · rw [hb0]; show ¬ (min s.to_ t ≤ y ∧ y < s.to_); omega
  · rw [if_neg hp]
    rw [partB_iff] at hp
    by_cases hy : hitB y s = true
    · rw [if_pos hy]
      have hy' := hb0.1 hy
      exact ⟨s, by simp [List.find?_cons, hy], rfl, by rw [if_neg (by omega)]⟩
    · rw [if_neg hy]
      have hy' : hitB y s = false := by simpa using hy
      simp [List.find?_cons, hy']
theorem limF_at {f t v y : Int} : ∀ {p : List Sgm}, (∀ s ∈ p, s.from_ < s.to_) → (p.find? (hitB y) = none ∧ (limF f t v p).find? (hitB y) = none) ∨ ∃ s u, p.find? (hitB y) = some s ∧ (limF f t v p).find? (hitB y) = some u ∧ lowP f t v y s u
  | [], _ => .inl ⟨rfl, rfl⟩
  | s :: r, h => by
    have e : limF f t v (s :: r) = limS f t v s ++ limF f t v r := rfl
    have hs := limS_at (f := f) (t := t) (v := v) (y := y) (h s (by simp))
    have ih := limF_at (f := f) (t := t) (v := v) (y := y) (p := r) (fun u hu => h u (by simp [hu]))
    rw [e, List.find?_append, List.find?_cons]
    by_cases hy : hitB y s = true
    · rw [if_pos hy] at hs
      obtain ⟨u, h1, h2⟩ := hs
      rw [hy, h1]
      exact .inr ⟨s, u, rfl, rfl, h2⟩
    · rw [if_neg hy] at hs
      have hy' : hitB y s = false := by simpa using hy
      rw [hy', hs]
      simpa using ih
end Sg

set_option linter.unusedVariables false
set_option linter.unusedSimpArgs false
namespace Sg

/-- The parts before and behind a coordinate. -/
def loS (x : Int) (s : Sgm) : Sgm := ⟨s.from_, min s.to_ x, s.grade, s.speed⟩
def hiS (x : Int) (s : Sgm) : Sgm := ⟨max s.from_ x, s.to_, s.grade, s.speed⟩
def loF (x : Int) (p : List Sgm) : List Sgm := (p.filter fun s => decide (s.from_ < x)).map (loS x)
def hiF (x : Int) (p : List Sgm) : List Sgm := (p.filter fun s => decide (x < s.to_)).map (hiS x)
theorem loF_cons (x : Int) (s : Sgm) (r : List Sgm) : loF x (s :: r) = if s.from_ < x then loS x s :: loF x r else loF x r := by
  unfold loF; rw [List.filter_cons]; by_cases h : s.from_ < x <;> simp [h]
theorem hiF_cons (x : Int) (s : Sgm) (r : List Sgm) : hiF x (s :: r) = if x < s.to_ then hiS x s :: hiF x r else hiF x r := by
  unfold hiF; rw [List.filter_cons]; by_cases h : x < s.to_ <;> simp [h]
theorem cutF_cons (f t : Int) (s : Sgm) (r : List Sgm) : cutF f t (s :: r) = if max s.from_ f < min s.to_ t then partS f t s :: cutF f t r else cutF f t r := by
  unfold cutF; rw [List.filter_cons]
  by_cases h : max s.from_ f < min s.to_ t
  · rw [if_pos (partB_iff.2 h), if_pos h]; rfl
  · rw [if_neg (fun c => h (partB_iff.1 c)), if_neg h]
theorem cut_lo {A x : Int} : ∀ {p : List Sgm} {a b : Int}, Ch a p b → A ≤ a → cutF A x p = loF x p
  | [], _, _, _, _ => rfl
  | s :: r, a, b, ⟨h1, h2, h3⟩, hA => by
    obtain ⟨_, hlt, _⟩ := h2
    rw [cutF_cons, loF_cons, cut_lo h3 (by omega)]
    by_cases c : s.from_ < x
    · rw [if_pos (by omega), if_pos c]
      exact congrArg (· :: _) (Sgm.eq (show max s.from_ A = s.from_ by omega) rfl rfl rfl)
    · rw [if_neg (by omega), if_neg c]
theorem cut_hi {B x : Int} : ∀ {p : List Sgm} {a b : Int}, Ch a p b → b ≤ B → cutF x B p = hiF x p
  | [], _, _, _, _ => rfl
  | s :: r, a, b, ⟨h1, h2, h3⟩, hB => by
    obtain ⟨_, hlt, _⟩ := h2
    have := h3.le
    rw [cutF_cons, hiF_cons, cut_hi h3 hB]
    by_cases c : x < s.to_
    · rw [if_pos (by omega), if_pos c]
      exact congrArg (· :: _) (Sgm.eq rfl (show min s.to_ B = s.to_ by omega) rfl rfl)
    · rw [if_neg (by omega), if_neg c]
theorem lo_all {x : Int} : ∀ {p : List Sgm} {a b : Int}, Ch a p b → b ≤ x → loF x p = p ∧ hiF x p = []
  | [], _, _, _, _ => ⟨rfl, rfl⟩
  | s :: r, a, b, ⟨h1, h2, h3⟩, hB => by
    obtain ⟨_, hlt, _⟩ := h2
    have := h3.le
    obtain ⟨i1, i2⟩ := lo_all h3 hB
    rw [loF_cons, hiF_cons, i1, i2, if_pos (by omega), if_neg (by omega)]
    exact ⟨congrArg (· :: _) (Sgm.eq rfl (show min s.to_ x = s.to_ by omega) rfl rfl), rfl⟩
theorem hi_all {x : Int} : ∀ {p : List Sgm} {a b : Int}, Ch a p b → x ≤ a → loF x p = [] ∧ hiF x p = p
  | [], _, _, _, _ => ⟨rfl, rfl⟩
  | s :: r, a, b, ⟨h1, h2, h3⟩, hB => by
    obtain ⟨_, hlt, _⟩ := h2
    obtain ⟨i1, i2⟩ := hi_all h3 (show x ≤ s.to_ by omega)
    rw [loF_cons, hiF_cons, i1, i2, if_neg (by omega), if_pos (by omega)]
    exact ⟨rfl, congrArg (· :: _) (Sgm.eq (show max s.from_ x = s.from_ by omega) rfl rfl rfl)⟩
def likeP (s u : Sgm) : Prop := u.grade = s.grade ∧ u.speed = s.speed
def atLike (y : Int) (p q : List Sgm) : Prop := (p.find? (hitB y) = none ∧ q.find? (hitB y) = none) ∨ ∃ s u, p.find? (hitB y) = some s ∧ q.find? (hitB y) = some u ∧ likeP s u
theorem atLike.refl (y : Int) (p : List Sgm) : atLike y p p := by
  cases h : p.find? (hitB y) with
  | none => exact .inl ⟨h, h⟩
  | some s => exact .inr ⟨s, s, h, h, rfl, rfl⟩
theorem atLike.cons {y : Int} {p q : List Sgm} (s : Sgm) (h : atLike y p q) : atLike y (s :: p) (s :: q) := by
  unfold atLike
  rw [List.find?_cons, List.find?_cons]
  by_cases c : hitB y s = true
  · rw [c]; exact .inr ⟨s, s, rfl, rfl, rfl, rfl⟩
  · rw [bf.2 c]; exact h
/-- A cut inside: what the two parts are. -/
theorem cut_in {x : Int} : ∀ {p : List Sgm} {a b : Int}, Ch a p b → a < x → x < b →
    Ch a (loF x p) x ∧ Ch x (hiF x p) b ∧ (((∃ s ∈ p, s.from_ = x) ∧ loF x p ++ hiF x p = p) ∨ ((∀ s ∈ p, s.from_ ≠ x) ∧ (loF x p ++ hiF x p).length = p.length + 1)) ∧ ∀ y, atLike y p (loF x p ++ hiF x p)
  | [], a, b, h, h1, h2 => by have : a = b := h; omega
  | s :: r, a, b, ⟨h1, h2, h3⟩, ha, hb => by
    have ok := h2
    obtain ⟨o1, hlt, o3, o4⟩ := h2
    have hle := h3.le
    subst h1
    rw [loF_cons, hiF_cons, if_pos ha]
    rcases Int.lt_trichotomy s.to_ x with c | c | c
    · obtain ⟨i1, i2, i3, i4⟩ := cut_in h3 c hb
      have e : loS x s = s := Sgm.eq rfl (show min s.to_ x = s.to_ by omega) rfl rfl
      rw [if_neg (by omega), e]
      refine ⟨⟨rfl, ok, i1⟩, i2, ?_, fun y => (i4 y).cons s⟩
      rcases i3 with ⟨⟨u, hu, hx⟩, i3⟩ | ⟨i3, i5⟩
      · exact .inl ⟨⟨u, by simp [hu], hx⟩, by rw [List.cons_append, i3]⟩
      · refine .inr ⟨fun u hu => ?_, by rw [List.cons_append, List.length_cons, i5, List.length_cons]⟩
        rcases List.mem_cons.1 hu with rfl | hu
        · omega
        · exact i3 u hu
    · obtain ⟨i1, i2⟩ := hi_all h3 (show x ≤ s.to_ by omega)
      have e : loS x s = s := Sgm.eq rfl (show min s.to_ x = s.to_ by omega) rfl rfl
      rw [if_neg (by omega), e, i1, i2]
      refine ⟨⟨rfl, ok, c⟩, by rw [← c]; exact h3, ?_, fun y => atLike.refl _ _⟩
      left
      refine ⟨?_, rfl⟩
      cases r with
      | nil => have : s.to_ = b := h3; omega
      | cons u r => exact ⟨u, by simp, by rw [h3.1, c]⟩
    · obtain ⟨i1, i2⟩ := hi_all h3 (show x ≤ s.to_ by omega)
      rw [if_pos c, i1, i2]
      have l1 : SegOk (loS x s) := ⟨o1, show s.from_ < min s.to_ x by omega, show min s.to_ x ≤ _ by omega, o4⟩
      have l2 : SegOk (hiS x s) := ⟨show _ ≤ max s.from_ x by omega, show max s.from_ x < s.to_ by omega, o3, o4⟩
      refine ⟨⟨rfl, l1, show min s.to_ x = x by omega⟩, ⟨show max s.from_ x = x by omega, l2, h3⟩, .inr ⟨fun u hu => ?_, rfl⟩, fun y => ?_⟩
      · rcases List.mem_cons.1 hu with rfl | hu
        · omega
        · obtain ⟨i, hi, rfl⟩ := List.getElem_of_mem hu
          have hge : ∀ {q : List Sgm} {c d : Int}, Ch c q d → ∀ i (hi : i < q.length), c ≤ q[i].from_ := by
            intro q
            induction q with
            | nil => intro c d _ i hi; simp at hi
            | cons v q ih =>
              intro c d ⟨g1, g2, g3⟩ i hi
              cases i with
              | zero => simp; omega
              | succ i =>
                have := ih g3 i (by simpa using hi)
                obtain ⟨_, g4, _⟩ := g2
                simp; omega
          have := hge h3 i hi
          omega
      · show atLike y (s :: r) (loS x s :: hiS x s :: r)
        unfold atLike
        rw [List.find?_cons, List.find?_cons, List.find?_cons]
        by_cases c1 : hitB y s = true
        · have c1' := hb0.1 c1
          rw [c1]
          by_cases c2 : y < x
          · rw [hb0.2 (show (loS x s).from_ ≤ y ∧ y < (loS x s).to_ from ⟨c1'.1, show y < min s.to_ x by omega⟩)]
            exact .inr ⟨s, loS x s, rfl, rfl, rfl, rfl⟩
          · rw [show hitB y (loS x s) = false by rw [bf, hb0]; show ¬ (s.from_ ≤ y ∧ y < min s.to_ x); omega, hb0.2 (show (hiS x s).from_ ≤ y ∧ y < (hiS x s).to_ from ⟨show max s.from_ x ≤ y by omega, c1'.2⟩)]
            exact .inr ⟨s, hiS x s, rfl, rfl, rfl, rfl⟩
        · have c1' : ¬ (s.from_ ≤ y ∧ y < s.to_) := fun h => c1 (hb0.2 h)
          rw [bf.2 c1, show hitB y (loS x s) = false by rw [bf, hb0]; show ¬ (s.from_ ≤ y ∧ y < min s.to_ x); omega, show hitB y (hiS x s) = false by rw [bf, hb0]; show ¬ (max s.from_ x ≤ y ∧ y < s.to_); omega]
          exact atLike.refl y r
/-- Join: its error and its list. -/
def lastT (p : List Sgm) : Int := (p.getD (p.length - 1) Sgm.z).to_
noncomputable def joinE (a b : List Sgm) : Int := if ¬ (validB a = true ∧ validB b = true) then 1 else if 0 < a.length ∧ 0 < b.length ∧ lastT a ≠ headF b then 10 else if 128 < a.length + b.length then 2 else 0
noncomputable def joinL (a b : List Sgm) : List Sgm := if joinE a b = 0 then a ++ b else []
theorem ch_last : ∀ {p : List Sgm} {a b : Int}, Ch a p b → 0 < p.length → lastT p = b
  | [], _, _, _, h => by simp at h
  | [s], a, b, ⟨_, _, h⟩, _ => h
  | s :: u :: r, a, b, ⟨_, _, h⟩, _ => by
    have := ch_last h (by simp)
    rw [← this]
    unfold lastT
    congr 1
theorem ch_head {p : List Sgm} {a b : Int} (h : Ch a p b) (h0 : 0 < p.length) : headF p = a := by
  cases p with
  | nil => simp at h0
  | cons s r => exact h.1
end Sg

set_option linter.unusedVariables false
set_option linter.unusedSimpArgs false
namespace Sg

def wtV (delay : Int) : Int := clampV delay 0 10
def stV (v : Int) : Int := min v 20000
def nV (v dec : Int) : Int := (stV v - 1) / dec
def triV (n : Int) : Int := n * (n + 1) / 2
def effV (dec grade : Int) : Int := max (clampV dec 0 200 + (981 * clampV grade (-1000) 1000) / 1000) 0
def dstV (v dec delay : Int) : Int := if v ≤ 0 then 0 else if dec < 1 then 1073741824 else wtV delay * stV v + nV v dec * stV v - dec * triV (nV v dec)
def timV (v dec delay : Int) : Int := if v ≤ 0 then 0 else if dec < 1 then 1073741824 else wtV delay + nV v dec + 1
def aftV (v dec delay cycles : Int) : Int :=
  if v ≤ 0 then 0 else if cycles ≤ wtV delay ∨ dec < 1 then stV v else if cycles - wtV delay > nV v dec then 0 else stV v - (cycles - wtV delay) * dec

theorem wtV_bd (d : Int) : 0 ≤ wtV d ∧ wtV d ≤ 10 := by unfold wtV clampV; omega
theorem wtV_mono {d e : Int} (h : d ≤ e) : wtV d ≤ wtV e := by unfold wtV clampV; omega
theorem stV_bd {v : Int} (h : 0 < v) : 1 ≤ stV v ∧ stV v ≤ 20000 := by unfold stV; omega
theorem stV_mono {v w : Int} (h : v ≤ w) : stV v ≤ stV w := by unfold stV; omega
theorem nV_bd {v dec : Int} (h : 0 < v) (hd : 1 ≤ dec) : 0 ≤ nV v dec ∧ nV v dec ≤ stV v - 1 := by
  have := stV_bd h
  exact ⟨Int.ediv_nonneg (by omega) (by omega), Int.ediv_le_self _ (by omega)⟩
theorem nV_mul {v dec : Int} (hd : 1 ≤ dec) : nV v dec * dec ≤ stV v - 1 ∧ stV v - 1 < (nV v dec + 1) * dec := by
  have h1 := Int.mul_ediv_add_emod (stV v - 1) dec
  have h2 := Int.emod_nonneg (stV v - 1) (show dec ≠ 0 by omega)
  have h3 := Int.emod_lt_of_pos (stV v - 1) (show 0 < dec by omega)
  have e : nV v dec * dec = dec * ((stV v - 1) / dec) := by rw [nV, Int.mul_comm]
  rw [Int.add_mul, e]; omega
theorem nV_lt {v dec k : Int} (hd : 1 ≤ dec) : nV v dec < k ↔ stV v ≤ k * dec := by
  have := @Int.ediv_lt_iff_lt_mul (stV v - 1) k dec (by omega)
  unfold nV; omega
theorem triV_two (n : Int) : 2 * triV n = n * (n + 1) := by
  unfold triV
  have : (n * (n + 1)) % 2 = 0 := by
    rcases Int.emod_two_eq n with h | h
    · rw [Int.mul_emod, h]; simp
    · rw [Int.mul_emod, Int.add_emod, h]; simp
  omega
theorem triV_succ (n : Int) : triV (n + 1) = triV n + n + 1 := by
  have h1 := triV_two n
  have h2 := triV_two (n + 1)
  have h3 : (n + 1) * (n + 1 + 1) = n * (n + 1) + 2 * n + 2 := by grind
  omega
theorem triV_nonneg {n : Int} (h : 0 ≤ n) : 0 ≤ triV n := by
  have h1 := triV_two n
  have h2 : 0 ≤ n * (n + 1) := Int.mul_nonneg h (by omega)
  omega
/-- The number of terms that the sum takes gives the greatest sum. -/
theorem top_sum {s dec n k : Int} (hd : 1 ≤ dec) (h1 : n * dec ≤ s - 1) (h2 : s - 1 < (n + 1) * dec) : k * s - dec * triV k ≤ n * s - dec * triV n := by
  have t1 := triV_two n
  have t2 := triV_two k
  have e : 2 * ((n * s - dec * triV n) - (k * s - dec * triV k)) = (n - k) * (2 * s - dec * (n + k + 1)) := by
    have : 2 * (dec * triV n) = dec * (n * (n + 1)) := by rw [← t1]; grind
    have : 2 * (dec * triV k) = dec * (k * (k + 1)) := by rw [← t2]; grind
    grind
  have g : 0 ≤ (n - k) * (2 * s - dec * (n + k + 1)) := by
    by_cases hk : k + 1 ≤ n
    · refine Int.mul_nonneg (by omega) ?_
      have : (n + k + 1) * dec ≤ (2 * n) * dec := Int.mul_le_mul_of_nonneg_right (by omega) (by omega)
      rw [Int.mul_comm dec]
      have : 2 * n * dec = 2 * (n * dec) := by grind
      omega
    · by_cases hk2 : n + 1 ≤ k
      · have : (2 * (n + 1)) * dec ≤ (n + k + 1) * dec := Int.mul_le_mul_of_nonneg_right (by omega) (by omega)
        have h3 : 2 * (n + 1) * dec = 2 * ((n + 1) * dec) := by grind
        have h4 : 2 * s - dec * (n + k + 1) ≤ 0 := by rw [Int.mul_comm dec]; omega
        have := Int.mul_nonneg (show 0 ≤ k - n by omega) (show 0 ≤ -(2 * s - dec * (n + k + 1)) by omega)
        grind
      · have : n = k := by omega
        subst this; simp
  omega
theorem dstV_pos {v dec delay : Int} (hv : 0 < v) (hd : 1 ≤ dec) : dstV v dec delay = wtV delay * stV v + nV v dec * stV v - dec * triV (nV v dec) := by
  rw [dstV, if_neg (by omega), if_neg (by omega)]
theorem timV_pos {v dec delay : Int} (hv : 0 < v) (hd : 1 ≤ dec) : timV v dec delay = wtV delay + nV v dec + 1 := by
  rw [timV, if_neg (by omega), if_neg (by omega)]
theorem dst_part {v dec : Int} (hv : 0 < v) (hd : 1 ≤ dec) : 0 ≤ nV v dec * stV v - dec * triV (nV v dec) ∧ nV v dec * stV v - dec * triV (nV v dec) ≤ 400000000 := by
  obtain ⟨h1, h2⟩ := @nV_mul v dec hd
  have h3 := @top_sum (stV v) dec (nV v dec) 0 hd h1 h2
  have h0 : triV 0 = 0 := rfl
  have hn := nV_bd hv hd
  have hs := stV_bd hv
  have h4 : nV v dec * stV v ≤ 20000 * 20000 := Int.mul_le_mul (by omega) (by omega) (by omega) (by omega)
  have h5 : 0 ≤ dec * triV (nV v dec) := Int.mul_nonneg (by omega) (triV_nonneg hn.1)
  rw [h0] at h3
  omega
theorem wt_part {v : Int} (delay : Int) (hv : 0 < v) : 0 ≤ wtV delay * stV v ∧ wtV delay * stV v ≤ 200000 := by
  have hs := stV_bd hv
  have hw := wtV_bd delay
  exact ⟨Int.mul_nonneg (by omega) (by omega), by have := Int.mul_le_mul (show wtV delay ≤ 10 by omega) (show stV v ≤ 20000 by omega) (by omega) (by omega); omega⟩
theorem dstV_bd (v dec delay : Int) : 0 ≤ dstV v dec delay ∧ dstV v dec delay ≤ 1073741824 := by
  by_cases hv : v ≤ 0
  · rw [dstV, if_pos hv]; omega
  · by_cases hd : dec < 1
    · rw [dstV, if_neg hv, if_pos hd]; omega
    · rw [dstV_pos (by omega) (by omega)]
      have := @dst_part v dec (by omega) (by omega)
      have := @wt_part v delay (by omega)
      omega
theorem dstV_mono {v w dec delay : Int} (h : v ≤ w) : dstV v dec delay ≤ dstV w dec delay := by
  by_cases hv : v ≤ 0
  · have := dstV_bd w dec delay
    rw [dstV, if_pos hv]; omega
  · by_cases hd : dec < 1
    · rw [dstV, if_neg hv, if_pos hd, dstV, if_neg (by omega), if_pos hd]; omega
    · rw [dstV_pos (by omega) (by omega), dstV_pos (by omega) (by omega)]
      obtain ⟨h1, h2⟩ := @nV_mul w dec (by omega)
      have h3 := @top_sum (stV w) dec (nV w dec) (nV v dec) (by omega) h1 h2
      have hs := stV_mono h
      have hn := @nV_bd v dec (by omega) (by omega)
      have h4 : nV v dec * stV v ≤ nV v dec * stV w := Int.mul_le_mul_of_nonneg_left hs hn.1
      have h5 : wtV delay * stV v ≤ wtV delay * stV w := Int.mul_le_mul_of_nonneg_left hs (wtV_bd _).1
      omega
theorem dstV_harder {v dec more delay : Int} (h1 : 1 ≤ dec) (h : dec ≤ more) : dstV v more delay ≤ dstV v dec delay := by
  by_cases hv : v ≤ 0
  · rw [dstV, if_pos hv, dstV, if_pos hv]; omega
  · rw [dstV_pos (by omega) (by omega), dstV_pos (by omega) (by omega)]
    obtain ⟨h2, h3⟩ := @nV_mul v dec (by omega)
    have h4 := @top_sum (stV v) dec (nV v dec) (nV v more) (by omega) h2 h3
    have hn := @nV_bd v more (by omega) (by omega)
    have h5 : dec * triV (nV v more) ≤ more * triV (nV v more) := Int.mul_le_mul_of_nonneg_right h (triV_nonneg hn.1)
    omega
theorem dstV_longer {v dec delay longer : Int} (h : delay ≤ longer) : dstV v dec delay ≤ dstV v dec longer := by
  unfold dstV
  split
  · omega
  · split
    · omega
    · have hs := @stV_bd v (by omega)
      have : wtV delay * stV v ≤ wtV longer * stV v := Int.mul_le_mul_of_nonneg_right (wtV_mono h) (by omega)
      omega
theorem nV_mono {v w dec : Int} (hd : 1 ≤ dec) (h : v ≤ w) : nV v dec ≤ nV w dec := Int.ediv_le_ediv (by omega) (by have := stV_mono h; omega)
theorem nV_harder {v dec more : Int} (hv : 0 < v) (hd : 1 ≤ dec) (h : dec ≤ more) : nV v more ≤ nV v dec := by
  have h1 := @nV_lt v dec (nV v dec + 1) hd
  have h2 := @nV_lt v more (nV v dec + 1) (by omega)
  have h3 := nV_bd hv hd
  have : (nV v dec + 1) * dec ≤ (nV v dec + 1) * more := Int.mul_le_mul_of_nonneg_left h (by omega)
  omega
theorem timV_bd {v dec delay : Int} (hd : 1 ≤ dec) : 0 ≤ timV v dec delay ∧ timV v dec delay ≤ 20010 := by
  by_cases hv : v ≤ 0
  · rw [timV, if_pos hv]; omega
  · rw [timV_pos (by omega) hd]
    have := @nV_bd v dec (by omega) hd
    have := @stV_bd v (by omega)
    have := wtV_bd delay
    omega
theorem timV_any (v dec delay : Int) : 0 ≤ timV v dec delay ∧ timV v dec delay ≤ 1073741824 := by
  by_cases hd : 1 ≤ dec
  · have := @timV_bd v dec delay hd; omega
  · unfold timV; split
    · omega
    · rw [if_pos (by omega)]; omega
theorem timV_mono {v w dec delay : Int} (hd : 1 ≤ dec) (h : v ≤ w) : timV v dec delay ≤ timV w dec delay := by
  by_cases hv : v ≤ 0
  · have := @timV_bd w dec delay hd
    rw [timV, if_pos hv]; omega
  · rw [timV_pos (by omega) hd, timV_pos (by omega) hd]
    have := nV_mono hd h
    omega
theorem timV_harder {v dec more delay : Int} (hd : 1 ≤ dec) (h : dec ≤ more) : timV v more delay ≤ timV v dec delay := by
  by_cases hv : v ≤ 0
  · rw [timV, if_pos hv, timV, if_pos hv]; omega
  · rw [timV_pos (by omega) (by omega), timV_pos (by omega) hd]
    have := @nV_harder v dec more (by omega) hd h
    omega
theorem aftV_bd (v dec delay c : Int) : 0 ≤ aftV v dec delay c ∧ aftV v dec delay c ≤ 20000 := by
  unfold aftV
  split
  · omega
  · have := @stV_bd v (by omega)
    split
    · omega
    · split
      · omega
      · have h1 := @nV_lt v dec (c - wtV delay) (by omega)
        have := Int.mul_nonneg (show 0 ≤ c - wtV delay by omega) (show 0 ≤ dec by omega)
        omega
/-- The distance after i cycles of braking. -/
def goneV (v dec delay i : Int) : Int :=
  if v ≤ 0 then 0 else if i ≤ wtV delay then i * stV v else wtV delay * stV v + (min (i - wtV delay) (nV v dec) * stV v - dec * triV (min (i - wtV delay) (nV v dec)))
theorem goneV_zero (v dec delay : Int) : goneV v dec delay 0 = 0 := by
  unfold goneV; have := wtV_bd delay
  split
  · rfl
  · rw [if_pos (by omega)]; simp
theorem goneV_a {v dec delay i : Int} (hv : 0 < v) (h : i ≤ wtV delay) : goneV v dec delay i = i * stV v := by rw [goneV, if_neg (by omega), if_pos h]
theorem goneV_b {v dec delay i : Int} (hv : 0 < v) (hd : 1 ≤ dec) (h : wtV delay ≤ i) {k : Int} (hk : min (i - wtV delay) (nV v dec) = k) : goneV v dec delay i = wtV delay * stV v + (k * stV v - dec * triV k) := by
  have hn := nV_bd hv hd
  by_cases h1 : i ≤ wtV delay
  · rw [goneV_a hv h1]
    have : i = wtV delay := by omega
    have : k = 0 := by omega
    subst i k
    have : triV 0 = 0 := rfl
    rw [this]; simp
  · rw [goneV, if_neg (by omega), if_neg h1, hk]
theorem aftV_a {v dec delay i : Int} (hv : 0 < v) (h : i ≤ wtV delay) : aftV v dec delay i = stV v := by rw [aftV, if_neg (by omega), if_pos (.inl h)]
theorem aftV_b {v dec delay i : Int} (hv : 0 < v) (hd : 1 ≤ dec) (h : wtV delay < i) (h2 : i - wtV delay > nV v dec) : aftV v dec delay i = 0 := by rw [aftV, if_neg (by omega), if_neg (by omega), if_pos h2]
theorem aftV_c {v dec delay i : Int} (hv : 0 < v) (hd : 1 ≤ dec) (h : wtV delay < i) (h2 : ¬ i - wtV delay > nV v dec) : aftV v dec delay i = stV v - (i - wtV delay) * dec := by rw [aftV, if_neg (by omega), if_neg (by omega), if_neg h2]
theorem goneV_succ {v dec delay i : Int} (hd : 1 ≤ dec) (hi : 0 ≤ i) : goneV v dec delay (i + 1) = goneV v dec delay i + aftV v dec delay (i + 1) := by
  by_cases hv : v ≤ 0
  · simp [goneV, aftV, hv]
  · have hv' : 0 < v := by omega
    have hn := nV_bd hv' hd
    by_cases h1 : i + 1 ≤ wtV delay
    · rw [goneV_a hv' h1, goneV_a hv' (by omega), aftV_a hv' h1]; grind
    · by_cases h3 : i + 1 - wtV delay > nV v dec
      · rw [goneV_b hv' hd (by omega) (k := nV v dec) (by omega), goneV_b hv' hd (by omega) (k := nV v dec) (by omega), aftV_b hv' hd (by omega) h3]; omega
      · rw [goneV_b hv' hd (by omega) (k := i - wtV delay + 1) (by omega), goneV_b hv' hd (by omega) (k := i - wtV delay) (by omega), aftV_c hv' hd (by omega) h3, triV_succ]
        have e3 : i + 1 - wtV delay = (i - wtV delay) + 1 := by omega
        rw [e3]
        generalize i - wtV delay = k
        grind
theorem goneV_end {v dec delay : Int} (hd : 1 ≤ dec) : goneV v dec delay (timV v dec delay) = dstV v dec delay := by
  by_cases hv : v ≤ 0
  · rw [goneV, if_pos hv, dstV, if_pos hv]
  · have hn := @nV_bd v dec (by omega) hd
    rw [goneV, if_neg hv, dstV_pos (by omega) hd, timV_pos (by omega) hd, if_neg (by omega)]
    have : min (wtV delay + nV v dec + 1 - wtV delay) (nV v dec) = nV v dec := by omega
    rw [this]; omega
theorem aftV_end {v dec delay : Int} (hd : 1 ≤ dec) : aftV v dec delay (timV v dec delay) = 0 := by
  by_cases hv : v ≤ 0
  · rw [aftV, if_pos hv]
  · have hn := @nV_bd v dec (by omega) hd
    rw [aftV, if_neg hv, timV_pos (by omega) hd, if_neg (by omega), if_pos (by omega)]
theorem aftV_zero {v dec delay i : Int} (hd : 1 ≤ dec) (hi : 1 ≤ i) (hin : i ≤ timV v dec delay) (h : aftV v dec delay i = 0) : ¬ i < timV v dec delay := by
  intro hlt
  by_cases hv : v ≤ 0
  · rw [timV, if_pos hv] at hin; omega
  · have hn := @nV_bd v dec (by omega) hd
    have hs := @stV_bd v (by omega)
    rw [timV_pos (by omega) hd] at hlt
    unfold aftV at h
    rw [if_neg hv] at h
    by_cases h1 : i ≤ wtV delay ∨ dec < 1
    · rw [if_pos h1] at h; omega
    · rw [if_neg h1, if_neg (by omega)] at h
      have := @nV_lt v dec (i - wtV delay) hd
      omega
theorem goneV_bd {v dec delay i : Int} (hd : 1 ≤ dec) (hi : 0 ≤ i) : 0 ≤ goneV v dec delay i ∧ goneV v dec delay i ≤ 20000 * i := by
  obtain ⟨n, rfl⟩ := Int.eq_ofNat_of_zero_le hi
  clear hi
  induction n with
  | zero => have := goneV_zero v dec delay; simp at this ⊢; omega
  | succ n ih =>
    have h1 := @goneV_succ v dec delay n hd (by omega)
    have h2 := aftV_bd v dec delay (n + 1)
    have : ((n + 1 : Nat) : Int) = (n : Int) + 1 := by omega
    rw [this]; omega

def IsSpeed (d dec delay r : Int) : Prop := (d < 0 → r = -1) ∧ (0 ≤ d → 0 ≤ r ∧ r ≤ 10000 ∧ dstV r dec delay ≤ d ∧ (r = 10000 ∨ d < dstV (r + 1) dec delay))
theorem IsSpeed.eq {d dec delay r s : Int} (h : IsSpeed d dec delay r) (g : IsSpeed d dec delay s) : r = s := by
  by_cases hd : d < 0
  · rw [h.1 hd, g.1 hd]
  · obtain ⟨h1, h2, h3, h4⟩ := h.2 (by omega)
    obtain ⟨g1, g2, g3, g4⟩ := g.2 (by omega)
    by_cases e1 : r + 1 ≤ s
    · have := @dstV_mono (r + 1) s dec delay e1
      omega
    · by_cases e2 : s + 1 ≤ r
      · have := @dstV_mono (s + 1) r dec delay e2
        omega
      · omega
open Classical in
noncomputable def spdV (d dec delay : Int) : Int := if h : ∃ r, IsSpeed d dec delay r then h.choose else 0
theorem IsSpeed.spd {d dec delay r : Int} (h : IsSpeed d dec delay r) : r = spdV d dec delay := by
  have hx : ∃ r, IsSpeed d dec delay r := ⟨r, h⟩
  rw [spdV, dif_pos hx]; exact h.eq hx.choose_spec
theorem isSpeed_step {dec delay d : Int} (hd : 0 ≤ d) : ∀ n : Nat, n ≤ 10000 → (∃ r : Int, 0 ≤ r ∧ r ≤ n ∧ dstV r dec delay ≤ d ∧ (r = n ∨ d < dstV (r + 1) dec delay)) := by
  intro n
  induction n with
  | zero => intro _; exact ⟨0, by omega, by omega, by rw [dstV, if_pos (by omega)]; exact hd, .inl rfl⟩
  | succ n ih =>
    intro hn
    obtain ⟨r, h1, h2, h3, h4⟩ := ih (by omega)
    rcases h4 with h4 | h4
    · by_cases h5 : d < dstV (r + 1) dec delay
      · exact ⟨r, h1, by omega, h3, .inr h5⟩
      · exact ⟨r + 1, by omega, by omega, by omega, .inl (by omega)⟩
    · exact ⟨r, h1, by omega, h3, .inr h4⟩
theorem spdV_is (d dec delay : Int) : IsSpeed d dec delay (spdV d dec delay) := by
  have hx : ∃ r, IsSpeed d dec delay r := by
    by_cases hd : d < 0
    · exact ⟨-1, fun _ => rfl, fun h => by omega⟩
    · obtain ⟨r, h1, h2, h3, h4⟩ := isSpeed_step (dec := dec) (delay := delay) (show 0 ≤ d by omega) 10000 (by omega)
      exact ⟨r, fun h => by omega, fun _ => ⟨h1, h2, h3, h4⟩⟩
  rw [spdV, dif_pos hx]; exact hx.choose_spec
theorem spdV_bd (d dec delay : Int) : -1 ≤ spdV d dec delay ∧ spdV d dec delay ≤ 10000 := by
  have h := spdV_is d dec delay
  by_cases hd : d < 0
  · have := h.1 hd; omega
  · have := h.2 (by omega); omega
theorem effV_flo (dec grade : Int) : effV dec grade = max (clampV dec 0 200 + floV (981 * clampV grade (-1000) 1000) 1000) 0 := by
  rw [floV_pos (by omega)]; rfl
theorem effV_bd (dec grade : Int) : 0 ≤ effV dec grade ∧ effV dec grade ≤ 1181 := by unfold effV clampV; omega
end Sg

set_option linter.unusedVariables false
set_option linter.unusedSimpArgs false
namespace Sg

/-- A letter, or (not at the beginning) a digit or a low line. -/
def okI (i : Nat) (c : Int) : Bool := (decide (97 ≤ c) && decide (c ≤ 122)) || (!(i == 0) && ((decide (48 ≤ c) && decide (c ≤ 57)) || c == 95))
def okTo (l : List UInt8) (k : Nat) : Prop := ∀ j, j < k → okI j ((l.getD j 0).toNat : Int) = true
def nameB (l : List UInt8) : Bool := (List.range l.length).all (fun j => okI j ((l.getD j 0).toNat : Int)) && decide (1 ≤ l.length) && decide (l.length ≤ 12)
theorem okTo_zero (l : List UInt8) : okTo l 0 := fun j h => absurd h (by omega)
theorem okTo_succ {l : List UInt8} {k : Nat} (h : okTo l k) (hk : okI k ((l.getD k 0).toNat : Int) = true) : okTo l (k + 1) := fun j hj => by
  by_cases e : j = k
  · subst e; exact hk
  · exact h j (by omega)
theorem nameB_all {l : List UInt8} (h : okTo l l.length) : nameB l = (decide (1 ≤ l.length) && decide (l.length ≤ 12)) := by
  unfold nameB
  have : (List.range l.length).all (fun j => okI j ((l.getD j 0).toNat : Int)) = true := by
    rw [List.all_eq_true]; intro j hj; exact h j (List.mem_range.1 hj)
  rw [this]; simp
theorem nameB_bad {l : List UInt8} {k : Nat} (hk : k < l.length) (h : okI k ((l.getD k 0).toNat : Int) = false) : nameB l = false := by
  unfold nameB
  have : (List.range l.length).all (fun j => okI j ((l.getD j 0).toNat : Int)) = false := by
    rw [List.all_eq_false]; exact ⟨k, List.mem_range.2 hk, by rw [h]; simp⟩
  rw [this]; simp

/-- The data of a train. -/
structure Tr where
  id : Int
  name : ByteArray
  len : Int
  speed : Int
  accel : Int
  service : Int
  emergency : Int
  delay : Int
  cons : Int
  rate : Int

def inB (n lo hi : Int) : Bool := decide (lo ≤ n) && decide (n ≤ hi)
theorem inB_true {n lo hi : Int} : inB n lo hi = true ↔ lo ≤ n ∧ n ≤ hi := by simp [inB]
theorem inB_false {n lo hi : Int} : inB n lo hi = false ↔ ¬ (lo ≤ n ∧ n ≤ hi) := by simp [inB]
def chkE (T : Tr) : Int :=
  if nameB T.name.data.toList = false then 3
  else if inB T.id 1 99 && inB T.len 1 50000 && inB T.speed 1 10000 && inB T.accel 1 200 && inB T.service 1 200 && inB T.emergency T.service 200 && inB T.delay 0 5 && inB T.cons 0 500 && inB T.rate 0 100 then 0
  else 1
structure TrOk (T : Tr) : Prop where
  name : nameB T.name.data.toList = true
  id : 1 ≤ T.id ∧ T.id ≤ 99
  len : 1 ≤ T.len ∧ T.len ≤ 50000
  speed : 1 ≤ T.speed ∧ T.speed ≤ 10000
  accel : 1 ≤ T.accel ∧ T.accel ≤ 200
  service : 1 ≤ T.service ∧ T.service ≤ 200
  emergency : T.service ≤ T.emergency ∧ T.emergency ≤ 200
  delay : 0 ≤ T.delay ∧ T.delay ≤ 5
  cons : 0 ≤ T.cons ∧ T.cons ≤ 500
  rate : 0 ≤ T.rate ∧ T.rate ≤ 100
theorem chkE_ok {T : Tr} (h : chkE T = 0) : TrOk T := by
  unfold chkE at h
  split at h
  · omega
  · rename_i hn
    split at h
    · rename_i hc
      simp only [Bool.and_eq_true, inB_true] at hc
      obtain ⟨⟨⟨⟨⟨⟨⟨⟨h1, h2⟩, h3⟩, h4⟩, h5⟩, h6⟩, h7⟩, h8⟩, h9⟩ := hc
      exact ⟨by simpa using hn, h1, h2, h3, h4, h5, h6, h7, h8, h9⟩
    · omega

def errV (c r m : Int) : Int := if m ≤ 0 then 0 else c + min m 1073741824 * r / 1000
theorem errV_pos {c r m : Int} (h : 0 < m) : errV c r m = c + min m 1073741824 * r / 1000 := by rw [errV, if_neg (by omega)]
theorem mul_bd {m r : Int} (h0 : 0 < m) (hm : m ≤ 1073741824) (hr : 0 ≤ r ∧ r ≤ 100) : 0 ≤ m * r ∧ m * r ≤ 107374182400 := by
  refine ⟨Int.mul_nonneg (by omega) (by omega), ?_⟩
  have := Int.mul_le_mul hm hr.2 hr.1 (by omega)
  omega
theorem errV_bd {c r : Int} (m : Int) (hc : 0 ≤ c ∧ c ≤ 500) (hr : 0 ≤ r ∧ r ≤ 100) : 0 ≤ errV c r m ∧ errV c r m ≤ 107374682 := by
  by_cases h : m ≤ 0
  · rw [errV, if_pos h]; omega
  · rw [errV_pos (by omega)]
    have := @mul_bd (min m 1073741824) r (by omega) (by omega) hr
    omega
theorem errV_step {c r : Int} (m : Int) (hc : 0 ≤ c ∧ c ≤ 500) (hr : 0 ≤ r ∧ r ≤ 100) (hm : 1 ≤ m) : errV c r m ≤ errV c r (m + 1) ∧ errV c r (m + 1) ≤ errV c r m + 1 := by
  rw [errV_pos (by omega), errV_pos (by omega)]
  by_cases h : m < 1073741824
  · have e1 : min m 1073741824 = m := by omega
    have e2 : min (m + 1) 1073741824 = m + 1 := by omega
    have e3 : (m + 1) * r = m * r + r := by grind
    rw [e1, e2, e3]; omega
  · have e1 : min m 1073741824 = 1073741824 := by omega
    have e2 : min (m + 1) 1073741824 = 1073741824 := by omega
    rw [e1, e2]; omega
theorem errV_le {c r : Int} {m : Int} (hc : 0 ≤ c ∧ c ≤ 500) (hr : 0 ≤ r ∧ r ≤ 100) (hm : 1 ≤ m) (n : Nat) : errV c r m ≤ errV c r (m + n) ∧ errV c r (m + n) ≤ errV c r m + n := by
  induction n with
  | zero => simp
  | succ n ih =>
    have := @errV_step c r (m + n) hc hr (by omega)
    have e : m + ((n + 1 : Nat) : Int) = m + n + 1 := by omega
    rw [e]; omega

def mayB (c r d m : Int) : Bool := decide (1 ≤ m) && (decide (m - d ≤ errV c r m) && decide (d - m ≤ errV c r m))
theorem mayB_true {c r d m : Int} : mayB c r d m = true ↔ 1 ≤ m ∧ m - d ≤ errV c r m ∧ d - m ≤ errV c r m := by simp [mayB]
theorem mayB_mid {c r d x y z : Int} (hc : 0 ≤ c ∧ c ≤ 500) (hr : 0 ≤ r ∧ r ≤ 100) (hx : mayB c r d x = true) (hy : mayB c r d y = true) (h1 : x ≤ z) (h2 : z ≤ y) : mayB c r d z = true := by
  rw [mayB_true] at *
  obtain ⟨n, hn⟩ : ∃ n : Nat, z = x + n := ⟨(z - x).toNat, by omega⟩
  obtain ⟨k, hk⟩ : ∃ k : Nat, y = z + k := ⟨(y - z).toNat, by omega⟩
  have e1 := @errV_le c r x hc hr (by omega) n
  have e2 := @errV_le c r z hc hr (by omega) k
  rw [← hn] at e1
  rw [← hk] at e2
  omega
theorem mayB_self {c r d : Int} (hc : 0 ≤ c ∧ c ≤ 500) (hr : 0 ≤ r ∧ r ≤ 100) (hd : 1 ≤ d) : mayB c r d d = true := by
  have := @errV_bd c r d hc hr
  rw [mayB_true]; omega
/-- The number that may be measured nearest to the goal g. -/
def IsMeas (c r d g x : Int) : Prop := mayB c r d x = true ∧ (x = g ∨ (x < g ∧ mayB c r d (x + 1) = false) ∨ (g < x ∧ mayB c r d (x - 1) = false))
theorem IsMeas.eq {c r d g x y : Int} (hc : 0 ≤ c ∧ c ≤ 500) (hr : 0 ≤ r ∧ r ≤ 100) (hx : IsMeas c r d g x) (hy : IsMeas c r d g y) : x = y := by
  have key : ∀ x y, x < y → IsMeas c r d g x → IsMeas c r d g y → False := by
    intro x y hlt hx hy
    have a := mayB_mid hc hr hx.1 hy.1 (show x ≤ x + 1 by omega) (by omega)
    have b := mayB_mid hc hr hx.1 hy.1 (show x ≤ y - 1 by omega) (by omega)
    rcases hx.2 with h | ⟨h, h'⟩ | ⟨h, h'⟩
    · rcases hy.2 with g1 | ⟨g1, g'⟩ | ⟨g1, g'⟩
      · omega
      · omega
      · rw [b] at g'; cases g'
    · rw [a] at h'; cases h'
    · rcases hy.2 with g1 | ⟨g1, g'⟩ | ⟨g1, g'⟩
      · omega
      · omega
      · rw [b] at g'; cases g'
  by_cases h1 : x < y
  · exact (key x y h1 hx hy).elim
  · by_cases h2 : y < x
    · exact (key y x h2 hy hx).elim
    · omega
theorem IsMeas.one {c r d g x : Int} (hc : 0 ≤ c ∧ c ≤ 500) (hr : 0 ≤ r ∧ r ≤ 100) (hd : 1 ≤ d) (h : IsMeas c r d (max g 1) x) : IsMeas c r d g x := by
  obtain ⟨h1, h2⟩ := h
  have hx := (mayB_true.1 h1).1
  refine ⟨h1, ?_⟩
  by_cases hg : 1 ≤ g
  · have : max g 1 = g := by omega
    rwa [this] at h2
  · have e : max g 1 = 1 := by omega
    rw [e] at h2
    rcases h2 with h | ⟨h, _⟩ | ⟨h, h'⟩
    · refine .inr (.inr ⟨by omega, ?_⟩)
      subst h
      simp [mayB]
    · omega
    · exact .inr (.inr ⟨by omega, h'⟩)
open Classical in
noncomputable def measV (c r d s : Int) : Int := if d ≤ 0 then 0 else
  if h : ∃ x, IsMeas c r (min d 1073741824) (min d 1073741824 + clampV s (-1073741824) 1073741824) x then h.choose else 0
theorem measV_zero {c r d s : Int} (h : d ≤ 0) : measV c r d s = 0 := by rw [measV, if_pos h]
theorem measV_of {c r d s x : Int} (hc : 0 ≤ c ∧ c ≤ 500) (hr : 0 ≤ r ∧ r ≤ 100) (hd : 0 < d) (h : IsMeas c r (min d 1073741824) (min d 1073741824 + clampV s (-1073741824) 1073741824) x) : measV c r d s = x := by
  have hx : ∃ x, IsMeas c r (min d 1073741824) (min d 1073741824 + clampV s (-1073741824) 1073741824) x := ⟨x, h⟩
  rw [measV, if_neg (by omega), dif_pos hx]; exact hx.choose_spec.eq hc hr h
/-- An estimate. -/
structure Es where
  min : Int
  max : Int
  speed : Int
def addU (c r m : Int) : Int := errV c r (clampV m 0 1073741824)
def addV (c r : Int) (e : Es) (m : Int) : Es :=
  ⟨clampV (e.min + Max.max 0 (clampV m 0 1073741824 - addU c r m)) (-1073741824) 1073741824, clampV (e.max + clampV m 0 1073741824 + addU c r m) (-1073741824) 1073741824, clampV m 0 1073741824 + addU c r m⟩
def coV (n : Int) : Int := clampV n (-1073741824) 1073741824
def fixF (c r : Int) (e : Es) (at_ off : Int) : Es := ⟨Max.max e.min (coV at_ + coV off - errV c r (coV off)), Min.min e.max (coV at_ + coV off + errV c r (coV off)), e.speed⟩
def fixE (c r : Int) (e : Es) (at_ off : Int) : Int := if (fixF c r e at_ off).max < (fixF c r e at_ off).min then 10 else 0
def fixV (c r : Int) (e : Es) (at_ off : Int) : Es := if (fixF c r e at_ off).max < (fixF c r e at_ off).min then e else fixF c r e at_ off
def holdB (e : Es) (x v : Int) : Bool := decide (e.min ≤ x) && (decide (x ≤ e.max) && decide (v ≤ e.speed))
end Sg

set_option linter.unusedVariables false
set_option linter.unusedSimpArgs false
namespace Sg

def roomV (d t dec : Int) : Int := min d 1073741824 + dstV t dec 0
def noTow (d t dec delay : Int) : Prop := d < 0 ∨ dec < 1 ∨ 10000 < max t 0 ∨ roomV d t dec < dstV (max t 0) dec delay
def IsTow (d t dec delay r : Int) : Prop := (noTow d t dec delay → r = t) ∧ (¬ noTow d t dec delay → max t 0 ≤ r ∧ r ≤ 10000 ∧ dstV r dec delay ≤ roomV d t dec ∧ (r = 10000 ∨ roomV d t dec < dstV (r + 1) dec delay))
theorem roomV_bd (d t dec : Int) (hd : 0 ≤ d) : 0 ≤ roomV d t dec ∧ roomV d t dec ≤ 2147483648 := by
  have := dstV_bd t dec 0; unfold roomV; omega
theorem IsTow.eq {d t dec delay r s : Int} (h : IsTow d t dec delay r) (g : IsTow d t dec delay s) : r = s := by
  by_cases c : noTow d t dec delay
  · rw [h.1 c, g.1 c]
  · obtain ⟨h1, h2, h3, h4⟩ := h.2 c
    obtain ⟨g1, g2, g3, g4⟩ := g.2 c
    rcases Int.lt_trichotomy r s with k | k | k
    · have := dstV_mono (dec := dec) (delay := delay) (show r + 1 ≤ s by omega); omega
    · exact k
    · have := dstV_mono (dec := dec) (delay := delay) (show s + 1 ≤ r by omega); omega
theorem tow_step {dec delay room lo : Int} (h0 : 0 ≤ lo) (h1 : dstV lo dec delay ≤ room) : ∀ n : Nat, lo + n ≤ 10000 → ∃ r : Int, lo ≤ r ∧ r ≤ lo + n ∧ dstV r dec delay ≤ room ∧ (r = lo + n ∨ room < dstV (r + 1) dec delay)
  | 0, _ => ⟨lo, by omega, by omega, h1, .inl (by omega)⟩
  | n + 1, h => by
    obtain ⟨r, r1, r2, r3, r4⟩ := tow_step h0 h1 n (by omega)
    rcases r4 with r4 | r4
    · by_cases c : dstV (r + 1) dec delay ≤ room
      · exact ⟨r + 1, by omega, by omega, c, .inl (by omega)⟩
      · exact ⟨r, r1, by omega, r3, .inr (by omega)⟩
    · exact ⟨r, r1, by omega, r3, .inr r4⟩
theorem tow_ex (d t dec delay : Int) : ∃ r, IsTow d t dec delay r := by
  by_cases c : noTow d t dec delay
  · exact ⟨t, fun _ => rfl, fun h => absurd c h⟩
  · have c' := c
    unfold noTow at c
    obtain ⟨n, hn⟩ : ∃ n : Nat, max t 0 + n = 10000 := ⟨(10000 - max t 0).toNat, by omega⟩
    obtain ⟨r, r1, r2, r3, r4⟩ := tow_step (dec := dec) (delay := delay) (room := roomV d t dec) (show 0 ≤ max t 0 by omega) (by omega) n (by omega)
    exact ⟨r, fun h => absurd h c', fun _ => ⟨r1, by omega, r3, by rcases r4 with r4 | r4; exact .inl (by omega); exact .inr r4⟩⟩
noncomputable def towV (d t dec delay : Int) : Int := (tow_ex d t dec delay).choose
theorem towV_is (d t dec delay : Int) : IsTow d t dec delay (towV d t dec delay) := (tow_ex d t dec delay).choose_spec
theorem IsTow.tow {d t dec delay r : Int} (h : IsTow d t dec delay r) : r = towV d t dec delay := h.eq (towV_is d t dec delay)
theorem towV_ge (d t dec delay : Int) : t ≤ towV d t dec delay := by
  by_cases c : noTow d t dec delay
  · rw [(towV_is d t dec delay).1 c]; exact Int.le_refl _
  · have := ((towV_is d t dec delay).2 c).1; omega
theorem towV_le (d t dec delay : Int) : towV d t dec delay ≤ max t 10000 := by
  by_cases c : noTow d t dec delay
  · rw [(towV_is d t dec delay).1 c]; omega
  · have := ((towV_is d t dec delay).2 c).2.1; omega
theorem towV_mono {d e t u dec delay : Int} (hd : 0 ≤ d) (hde : d ≤ e) (ht : 0 ≤ t) (htu : t ≤ u) (hu : u ≤ 10000) : towV d t dec delay ≤ towV e u dec delay := by
  have hr : roomV d t dec ≤ roomV e u dec := by have := dstV_mono (dec := dec) (delay := 0) htu; unfold roomV; omega
  by_cases c : noTow d t dec delay
  · rw [(towV_is d t dec delay).1 c]; have := towV_ge e u dec delay; omega
  · obtain ⟨h1, h2, h3, h4⟩ := (towV_is d t dec delay).2 c
    by_cases c2 : noTow e u dec delay
    · rw [(towV_is e u dec delay).1 c2]
      unfold noTow at c c2
      refine Classical.byContradiction fun hlt => ?_
      have m := dstV_mono (dec := dec) (delay := delay) (show max u 0 ≤ towV d t dec delay by omega)
      omega
    · obtain ⟨g1, g2, g3, g4⟩ := (towV_is e u dec delay).2 c2
      refine Classical.byContradiction fun hlt => ?_
      have m := dstV_mono (dec := dec) (delay := delay) (show towV e u dec delay + 1 ≤ towV d t dec delay by omega)
      omega
theorem spdV_mono {d e dec delay : Int} (h : d ≤ e) : spdV d dec delay ≤ spdV e dec delay := by
  have h1 := spdV_is d dec delay
  have h2 := spdV_is e dec delay
  have b1 := spdV_bd d dec delay
  have b2 := spdV_bd e dec delay
  by_cases c : d < 0
  · have := h1.1 c; omega
  · obtain ⟨g1, g2, g3, g4⟩ := h1.2 (by omega)
    obtain ⟨k1, k2, k3, k4⟩ := h2.2 (by omega)
    refine Classical.byContradiction fun hlt => ?_
    have m := dstV_mono (dec := dec) (delay := delay) (show spdV e dec delay + 1 ≤ spdV d dec delay by omega)
    omega
/-- The least of a number and a list. -/
def minL (a : Int) (l : List Int) : Int := l.foldl min a
theorem minL_snoc (a : Int) (l : List Int) (v : Int) : minL a (l ++ [v]) = min (minL a l) v := by simp [minL]
theorem minL_cons (a v : Int) (l : List Int) : minL a (v :: l) = minL (min a v) l := rfl
theorem minL_le : ∀ (l : List Int) (a : Int), minL a l ≤ a ∧ ∀ v ∈ l, minL a l ≤ v
  | [], a => ⟨Int.le_refl _, fun v h => by cases h⟩
  | u :: l, a => by
    obtain ⟨h1, h2⟩ := minL_le l (min a u)
    rw [minL_cons]
    refine ⟨by omega, fun v hv => ?_⟩
    rcases List.mem_cons.1 hv with rfl | hv
    · omega
    · exact h2 v hv
theorem minL_ge : ∀ (l : List Int) (a c : Int), c ≤ a → (∀ v ∈ l, c ≤ v) → c ≤ minL a l
  | [], a, c, h, _ => h
  | u :: l, a, c, h, g => by
    rw [minL_cons]
    exact minL_ge l (min a u) c (by have := g u (by simp); omega) (fun v hv => g v (by simp [hv]))
noncomputable def ceilV (T : Tr) (p : List Sgm) (e : Es) : Int := min T.speed (slowV p (e.min - T.len) e.max)
noncomputable def decV (T : Tr) (p : List Sgm) (e : Es) (end_ : Int) : Int := effV T.service (steepV p e.min end_)
def pastB (m : Int) (s : Sgm) : Bool := decide (m < s.from_)
noncomputable def ahdL (dec delay m : Int) (p : List Sgm) : List Int := (p.filter (pastB m)).map fun s => towV (s.from_ - m) s.speed dec delay
noncomputable def stopV (T : Tr) (dec : Int) (e : Es) (end_ : Int) : Int := max 0 (spdV (end_ - e.max) dec T.delay)
noncomputable def permV (T : Tr) (p : List Sgm) (e : Es) (end_ : Int) : Int :=
  if validB p = true then minL (min (ceilV T p e) (stopV T (decV T p e end_) e end_)) (ahdL (decV T p e end_) T.delay e.max p) else 0
theorem leastL_le : ∀ (l : List Int) (v : Int), v ∈ l → leastL l ≤ v
  | [], v, h => by cases h
  | a :: r, v, h => by
    have := minL_le r a
    rcases List.mem_cons.1 h with rfl | h
    · exact this.1
    · exact this.2 v h
theorem leastL_mem : ∀ (l : List Int), l ≠ [] → leastL l ∈ l
  | [], h => absurd rfl h
  | a :: r, _ => by
    have : ∀ (r : List Int) (a : Int), r.foldl min a ∈ a :: r := by
      intro r
      induction r with
      | nil => intro a; simp
      | cons u r ih =>
        intro a
        have := ih (min a u)
        show r.foldl min (min a u) ∈ a :: u :: r
        rcases List.mem_cons.1 this with h | h
        · rw [h]
          rcases (show min a u = a ∨ min a u = u by omega) with k | k <;> rw [k] <;> simp
        · simp [h]
    exact this r a
theorem touchB_iff {f t : Int} {s : Sgm} : touchB f t s = true ↔ s.from_ ≤ t ∧ f ≤ s.to_ := by
  unfold touchB; rw [Bool.and_eq_true, decide_eq_true_iff, decide_eq_true_iff]
theorem slow_le {p : List Sgm} {f t : Int} {s : Sgm} (hv : validB p = true) (hs : s ∈ p) (h : touchB f t s = true) : slowV p f t ≤ s.speed := by
  unfold slowV touL
  rw [if_pos hv]
  exact leastL_le _ _ (List.mem_map.2 ⟨s, List.mem_filter.2 ⟨hs, h⟩, rfl⟩)
theorem slow_bd {p : List Sgm} {f t : Int} : 0 ≤ slowV p f t ∧ slowV p f t ≤ 10000 := by
  unfold slowV touL
  split
  · rename_i hv
    by_cases hn : (p.filter (touchB f t)).map Sgm.speed = []
    · rw [hn]; decide
    · have := leastL_mem _ hn
      obtain ⟨s, hs, he⟩ := List.mem_map.1 this
      obtain ⟨hs, _⟩ := List.mem_filter.1 hs
      rw [← he]
      obtain ⟨b, hc⟩ := ch_of (validB_true.1 hv)
      obtain ⟨_, _, _, _, _, h6, h7⟩ := hc.ok s hs
      omega
  · decide
theorem slow_mono {p : List Sgm} {f t u : Int} (h : t ≤ u) (hn : ∃ s ∈ p, touchB f t s = true) : slowV p f u ≤ slowV p f t := by
  by_cases hv : validB p = true
  · have hn' : (p.filter (touchB f t)).map Sgm.speed ≠ [] := by
      obtain ⟨s, hs, hb⟩ := hn
      intro h0
      have : s ∈ p.filter (touchB f t) := List.mem_filter.2 ⟨hs, hb⟩
      rw [List.map_eq_nil_iff.1 h0] at this
      cases this
    have := leastL_mem _ hn'
    obtain ⟨s, hs, he⟩ := List.mem_map.1 this
    obtain ⟨hs, hb⟩ := List.mem_filter.1 hs
    have e : slowV p f t = s.speed := by unfold slowV touL; rw [if_pos hv]; exact he.symm
    rw [e]
    rw [touchB_iff] at hb
    exact slow_le hv hs (touchB_iff.2 ⟨by omega, hb.2⟩)
  · unfold slowV touL; rw [if_neg hv, if_neg hv]; exact Int.le_refl _
theorem stopV_bd (T : Tr) (dec : Int) (e : Es) (end_ : Int) : 0 ≤ stopV T dec e end_ ∧ stopV T dec e end_ ≤ 10000 := by
  have := spdV_bd (end_ - e.max) dec T.delay; unfold stopV; omega
theorem permV_le {T : Tr} {p : List Sgm} {e : Es} {end_ : Int} (hv : validB p = true) : permV T p e end_ ≤ ceilV T p e ∧ permV T p e end_ ≤ stopV T (decV T p e end_) e end_ := by
  unfold permV
  rw [if_pos hv]
  have := (minL_le (ahdL (decV T p e end_) T.delay e.max p) (min (ceilV T p e) (stopV T (decV T p e end_) e end_))).1
  omega
theorem permV_nonneg {T : Tr} {p : List Sgm} {e : Es} {end_ : Int} (hT : 0 ≤ T.speed) : 0 ≤ permV T p e end_ := by
  unfold permV
  split
  · rename_i hv
    refine minL_ge _ _ _ ?_ ?_
    · have := @slow_bd p (e.min - T.len) e.max
      have := stopV_bd T (decV T p e end_) e end_
      unfold ceilV; omega
    · intro v hm
      obtain ⟨s, hs, rfl⟩ := List.mem_map.1 hm
      obtain ⟨hs, _⟩ := List.mem_filter.1 hs
      obtain ⟨b, hc⟩ := ch_of (validB_true.1 hv)
      obtain ⟨_, _, _, _, _, h6, h7⟩ := hc.ok s hs
      have := towV_ge (s.from_ - e.max) s.speed (decV T p e end_) T.delay
      omega
  · omega
/-- At the permitted speed the service brake stops before the end. -/
theorem permV_stops {T : Tr} {p : List Sgm} {e : Es} {end_ : Int} : permV T p e end_ ≤ 0 ∨ dstV (permV T p e end_) (decV T p e end_) T.delay ≤ end_ - e.max := by
  by_cases hv : validB p = true
  · obtain ⟨_, h⟩ := permV_le (T := T) (e := e) (end_ := end_) hv
    by_cases c : permV T p e end_ ≤ 0
    · exact .inl c
    · right
      have k := spdV_is (end_ - e.max) (decV T p e end_) T.delay
      unfold stopV at h
      by_cases c2 : end_ - e.max < 0
      · have := k.1 c2; omega
      · obtain ⟨_, _, k3, _⟩ := k.2 (by omega)
        have := dstV_mono (dec := decV T p e end_) (delay := T.delay) (show permV T p e end_ ≤ spdV (end_ - e.max) (decV T p e end_) T.delay by omega)
        omega
  · left; unfold permV; rw [if_neg hv]; omega
theorem touch_first {p : List Sgm} {f t : Int} (hv : validB p = true) (h0 : 0 < p.length) (hf : headF p ≤ f) (ht : f ≤ lastT p) (hft : f ≤ t) : ∃ s ∈ p, touchB f t s = true := by
  obtain ⟨b, hc⟩ := ch_of (validB_true.1 hv)
  have hl := ch_last hc h0
  rw [hl] at ht
  have key : ∀ {q : List Sgm} {c d : Int}, Ch c q d → 0 < q.length → c ≤ f → f ≤ d → ∃ s ∈ q, touchB f t s = true := by
    intro q
    induction q with
    | nil => intro c d _ h; simp at h
    | cons s r ih =>
      intro c d ⟨g1, g2, g3⟩ _ k1 k2
      by_cases k : f ≤ s.to_
      · exact ⟨s, by simp, touchB_iff.2 ⟨by omega, k⟩⟩
      · cases r with
        | nil => have : s.to_ = d := g3; omega
        | cons u r =>
          obtain ⟨x, hx, hb⟩ := ih g3 (by simp) (by omega) k2
          exact ⟨x, by simp [hx], hb⟩
  exact key hc h0 hf ht
theorem mem_ge {p : List Sgm} (hv : validB p = true) : ∀ s ∈ p, headF p ≤ s.from_ := by
  obtain ⟨b, hc⟩ := ch_of (validB_true.1 hv)
  have key : ∀ {q : List Sgm} {c d : Int}, Ch c q d → ∀ s ∈ q, c ≤ s.from_ := by
    intro q
    induction q with
    | nil => intro c d _ s h; cases h
    | cons v q ih =>
      intro c d ⟨g1, g2, g3⟩ s hs
      rcases List.mem_cons.1 hs with rfl | hs
      · omega
      · have := ih g3 s hs
        obtain ⟨_, g4, _⟩ := g2
        omega
  exact key hc
theorem permV_mono {T : Tr} {p : List Sgm} {e : Es} {end_ further : Int} (hv : validB p = true) (h0 : 0 < p.length) (hme : e.min ≤ e.max) (hL : 0 ≤ T.len) (hf : headF p ≤ e.min - T.len) (hl : further ≤ lastT p) (hm : e.max ≤ further) :
    permV T p { e with max := further } end_ ≤ permV T p e end_ := by
  have hd : decV T p { e with max := further } end_ = decV T p e end_ := rfl
  unfold permV
  rw [if_pos hv, if_pos hv, hd]
  have hc : ceilV T p { e with max := further } ≤ ceilV T p e := by
    have := slow_mono (p := p) (f := e.min - T.len) hm (touch_first hv h0 hf (by omega) (by omega))
    unfold ceilV; show min T.speed (slowV p (e.min - T.len) further) ≤ _; omega
  have hs : stopV T (decV T p e end_) { e with max := further } end_ ≤ stopV T (decV T p e end_) e end_ := by
    have := spdV_mono (dec := decV T p e end_) (delay := T.delay) (show end_ - further ≤ end_ - e.max by omega)
    unfold stopV; show max 0 (spdV (end_ - further) _ _) ≤ _; omega
  obtain ⟨k1, k2⟩ := minL_le (ahdL (decV T p e end_) T.delay further p) (min (ceilV T p { e with max := further }) (stopV T (decV T p e end_) { e with max := further } end_))
  refine minL_ge _ _ _ (by show minL _ (ahdL (decV T p e end_) T.delay further p) ≤ _; omega) ?_
  intro v hm2
  obtain ⟨s, hs2, rfl⟩ := List.mem_map.1 hm2
  obtain ⟨hs3, hb⟩ := List.mem_filter.1 hs2
  have hb' : e.max < s.from_ := by simpa [pastB] using hb
  obtain ⟨b, hch⟩ := ch_of (validB_true.1 hv)
  obtain ⟨_, s2, _, _, _, s6, s7⟩ := hch.ok s hs3
  show minL _ (ahdL (decV T p e end_) T.delay further p) ≤ _
  by_cases c : further < s.from_
  · have := k2 (towV (s.from_ - further) s.speed (decV T p e end_) T.delay) (List.mem_map.2 ⟨s, List.mem_filter.2 ⟨hs3, by simpa [pastB] using c⟩, rfl⟩)
    have := towV_mono (dec := decV T p e end_) (delay := T.delay) (show 0 ≤ s.from_ - further by omega) (show s.from_ - further ≤ s.from_ - e.max by omega) (show 0 ≤ s.speed by omega) (Int.le_refl _) s7
    omega
  · have := slow_le (f := e.min - T.len) (t := further) hv hs3 (touchB_iff.2 ⟨by omega, by omega⟩)
    have := towV_ge (s.from_ - e.max) s.speed (decV T p e end_) T.delay
    have : ceilV T p { e with max := further } ≤ s.speed := by unfold ceilV; show min T.speed (slowV p (e.min - T.len) further) ≤ _; omega
    omega
/-- The train brakes: what it has moved and the braking distance of what is left of its speed. -/
theorem dst_one {v dec : Int} (hv : 0 < v) (hv2 : v ≤ 20000) (hd : 1 ≤ dec) : dstV v dec 0 = max 0 (v - dec) + dstV (max 0 (v - dec)) dec 0 := by
  have e1 : stV v = v := by unfold stV; omega
  have w0 : wtV 0 = 0 := by decide
  rw [dstV_pos hv hd, e1, w0]
  by_cases c : v ≤ dec
  · have e2 : max 0 (v - dec) = 0 := by omega
    have e3 : nV v dec = 0 := by
      unfold nV; rw [e1]; exact Int.ediv_eq_zero_of_lt (by omega) (by omega)
    rw [e2, e3]
    have : triV 0 = 0 := by decide
    have : dstV 0 dec 0 = 0 := by unfold dstV; rw [if_pos (by omega)]
    simp [*]
  · have e2 : max 0 (v - dec) = v - dec := by omega
    have e4 : stV (v - dec) = v - dec := by unfold stV; omega
    have e3 : nV v dec = nV (v - dec) dec + 1 := by
      unfold nV; rw [e1, e4]
      have : v - 1 = (v - dec - 1) + 1 * dec := by omega
      rw [this, Int.add_mul_ediv_right _ _ (by omega)]
    rw [e2, dstV_pos (by omega) hd, e4, w0, e3]
    have t := triV_succ (nV (v - dec) dec)
    rw [t]
    generalize nV (v - dec) dec = n
    generalize triV n = T
    grind
theorem dst_wait {v dec : Int} (delay : Int) (hv : 0 < v) (hd : 1 ≤ dec) : dstV v dec delay = wtV delay * stV v + dstV v dec 0 := by
  have w0 : wtV 0 = 0 := by decide
  rw [dstV_pos hv hd, dstV_pos hv hd, w0]
  omega
end Sg

set_option linter.unusedVariables false
set_option linter.unusedSimpArgs false
namespace Sg

theorem isMeas_up {c r d : Int} (h : mayB c r d d = true) (n : Nat) : ∃ x, d ≤ x ∧ x ≤ d + n ∧ mayB c r d x = true ∧ (x = d + n ∨ (x < d + n ∧ mayB c r d (x + 1) = false)) := by
  induction n with
  | zero => exact ⟨d, by omega, by omega, h, .inl (by omega)⟩
  | succ n ih =>
    obtain ⟨x, h1, h2, h3, h4⟩ := ih
    rcases h4 with h4 | h4
    · cases h5 : mayB c r d (x + 1)
      · exact ⟨x, h1, by omega, h3, .inr ⟨by omega, h5⟩⟩
      · exact ⟨x + 1, by omega, by omega, h5, .inl (by omega)⟩
    · exact ⟨x, h1, by omega, h3, .inr ⟨by omega, h4.2⟩⟩
theorem isMeas_down {c r d : Int} (h : mayB c r d d = true) (n : Nat) : ∃ x, x ≤ d ∧ d - n ≤ x ∧ mayB c r d x = true ∧ (x = d - n ∨ (d - n < x ∧ mayB c r d (x - 1) = false)) := by
  induction n with
  | zero => exact ⟨d, by omega, by omega, h, .inl (by omega)⟩
  | succ n ih =>
    obtain ⟨x, h1, h2, h3, h4⟩ := ih
    rcases h4 with h4 | h4
    · cases h5 : mayB c r d (x - 1)
      · exact ⟨x, h1, by omega, h3, .inr ⟨by omega, h5⟩⟩
      · exact ⟨x - 1, by omega, by omega, h5, .inl (by omega)⟩
    · exact ⟨x, h1, by omega, h3, .inr ⟨by omega, h4.2⟩⟩
theorem isMeas_exists {c r d : Int} (g : Int) (hc : 0 ≤ c ∧ c ≤ 500) (hr : 0 ≤ r ∧ r ≤ 100) (hd : 1 ≤ d) : ∃ x, IsMeas c r d g x := by
  have h := @mayB_self c r d hc hr hd
  by_cases hg : d ≤ g
  · obtain ⟨x, h1, h2, h3, h4⟩ := isMeas_up h (g - d).toNat
    have e : d + ((g - d).toNat : Int) = g := by omega
    rw [e] at h2 h4
    exact ⟨x, h3, by rcases h4 with h4 | h4; exact .inl h4; exact .inr (.inl h4)⟩
  · obtain ⟨x, h1, h2, h3, h4⟩ := isMeas_down h (d - g).toNat
    have e : d - ((d - g).toNat : Int) = g := by omega
    rw [e] at h2 h4
    exact ⟨x, h3, by rcases h4 with h4 | h4; exact .inl h4; exact .inr (.inr h4)⟩
theorem measV_spec {c r d : Int} (s : Int) (hc : 0 ≤ c ∧ c ≤ 500) (hr : 0 ≤ r ∧ r ≤ 100) (hd : 0 < d) : IsMeas c r (min d 1073741824) (min d 1073741824 + clampV s (-1073741824) 1073741824) (measV c r d s) := by
  obtain ⟨x, hx⟩ := @isMeas_exists c r (min d 1073741824) (min d 1073741824 + clampV s (-1073741824) 1073741824) hc hr (by omega)
  rw [measV_of hc hr hd hx]; exact hx
theorem errV_tenth {c r m : Int} (hc : 0 ≤ c ∧ c ≤ 500) (hr : 0 ≤ r ∧ r ≤ 100) (hm : 0 < m) : errV c r m ≤ 500 + m / 10 := by
  rw [errV_pos hm]
  have h1 : min m 1073741824 * r ≤ min m 1073741824 * 100 := Int.mul_le_mul_of_nonneg_left hr.2 (by omega)
  omega
theorem measV_may {c r d : Int} (s : Int) (hc : 0 ≤ c ∧ c ≤ 500) (hr : 0 ≤ r ∧ r ≤ 100) (hd : 0 < d) (hd2 : d ≤ 1073741824) : 1 ≤ measV c r d s ∧ measV c r d s ≤ 1300000000 ∧ measV c r d s - d ≤ errV c r (measV c r d s) ∧ d - measV c r d s ≤ errV c r (measV c r d s) := by
  have h := (measV_spec s hc hr hd).1
  have e : min d 1073741824 = d := by omega
  rw [e, mayB_true] at h
  have := @errV_bd c r (measV c r d s) hc hr
  omega
/-- The true position x and speed d after a movement lie within the estimate. -/
theorem contains_step {c r : Int} {E : Es} {x d : Int} (s : Int) (hc : 0 ≤ c ∧ c ≤ 500) (hr : 0 ≤ r ∧ r ≤ 100) (hd0 : 0 ≤ d) (hd1 : d ≤ 1000000) (hx0 : 0 ≤ x) (hx1 : x ≤ 1000000000)
    (h1 : E.min ≤ x) (h2 : x ≤ E.max) (b1 : -1073741824 ≤ E.min ∧ E.min ≤ 1073741824) (b2 : -1073741824 ≤ E.max ∧ E.max ≤ 1073741824) :
    (addV c r E (measV c r d s)).min ≤ x + d ∧ x + d ≤ (addV c r E (measV c r d s)).max ∧ d ≤ (addV c r E (measV c r d s)).speed ∧
    (-1073741824 ≤ (addV c r E (measV c r d s)).min ∧ (addV c r E (measV c r d s)).min ≤ 1073741824) ∧ (-1073741824 ≤ (addV c r E (measV c r d s)).max ∧ (addV c r E (measV c r d s)).max ≤ 1073741824) := by
  obtain ⟨m, hm⟩ : ∃ m, m = measV c r d s := ⟨_, rfl⟩
  obtain ⟨u, hu⟩ : ∃ u, u = addU c r m := ⟨_, rfl⟩
  have key : 0 ≤ m ∧ m ≤ 1112000 ∧ 0 ≤ u ∧ u ≤ 107374682 ∧ m - u ≤ d ∧ d ≤ m + u := by
    by_cases h0 : d = 0
    · subst h0
      have : m = 0 := by rw [hm]; exact measV_zero (by omega)
      subst this
      have : u = 0 := by rw [hu]; rfl
      omega
    · have h3 := measV_may s hc hr (show 0 < d by omega) (by omega)
      rw [← hm] at h3
      have h4 := @errV_tenth c r m hc hr (by omega)
      have h5 := @errV_bd c r m hc hr
      have e : clampV m 0 1073741824 = m := by unfold clampV; omega
      have : u = errV c r m := by rw [hu, addU, e]
      omega
  have e : clampV m 0 1073741824 = m := by unfold clampV; omega
  rw [← hm]
  unfold addV
  rw [← hu, e]
  simp only [clampV]
  omega
theorem fix_step {c r : Int} {E : Es} {x b v : Int} (hc : 0 ≤ c ∧ c ≤ 500) (hr : 0 ≤ r ∧ r ≤ 100) (hb0 : 0 ≤ b) (hb1 : b ≤ 1000000) (hx0 : 0 ≤ x) (hx1 : x ≤ 200000000) (h1 : E.min ≤ x) (h2 : x ≤ E.max) (h3 : v ≤ E.speed) :
    fixE c r E (x - b) b = 0 ∧ (fixV c r E (x - b) b).min ≤ x ∧ x ≤ (fixV c r E (x - b) b).max ∧ (fixV c r E (x - b) b).speed = E.speed ∧ E.min ≤ (fixV c r E (x - b) b).min ∧ (fixV c r E (x - b) b).max ≤ E.max := by
  have e1 : coV (x - b) = x - b := by unfold coV clampV; omega
  have e2 : coV b = b := by unfold coV clampV; omega
  have hu := @errV_bd c r b hc hr
  have hF : fixF c r E (x - b) b = ⟨max E.min (x - errV c r b), min E.max (x + errV c r b), E.speed⟩ := by
    unfold fixF
    rw [e1, e2, show x - b + b = x by omega]
  have hn : ¬ (fixF c r E (x - b) b).max < (fixF c r E (x - b) b).min := by rw [hF]; simp only; omega
  have hV : fixV c r E (x - b) b = ⟨max E.min (x - errV c r b), min E.max (x + errV c r b), E.speed⟩ := by unfold fixV; rw [if_neg hn, hF]
  rw [hV]
  refine ⟨by unfold fixE; rw [if_neg hn], ?_⟩
  dsimp only
  omega
end Sg

set_option linter.unusedVariables false
set_option linter.unusedSimpArgs false
namespace Sg

noncomputable def reachB (p : List Sgm) (e : Es) (en : Int) : Bool := validB p && (decide (0 < p.length) && (decide (headF p ≤ e.min) && decide (en ≤ lastT p)))
theorem reachB_true {p : List Sgm} {e : Es} {en : Int} : reachB p e en = true ↔ validB p = true ∧ 0 < p.length ∧ headF p ≤ e.min ∧ en ≤ lastT p := by
  unfold reachB; rw [Bool.and_eq_true, Bool.and_eq_true, Bool.and_eq_true, decide_eq_true_iff, decide_eq_true_iff, decide_eq_true_iff]
noncomputable def weakV (T : Tr) (p : List Sgm) (f t : Int) : Int := effV T.emergency (steepV p f t)
noncomputable def haltB (T : Tr) (p : List Sgm) (e : Es) (en moved u : Int) : Bool := decide (e.max + moved + dstV u (weakV T p e.min en) T.delay ≤ en)
noncomputable def safeB (T : Tr) (p : List Sgm) (e : Es) (en : Int) : Bool := reachB p e en && haltB T p e en 0 e.speed
noncomputable def aheadB (T : Tr) (p : List Sgm) (e : Es) (en : Int) : Bool := reachB p e en && haltB T p e en (e.speed + T.accel) (e.speed + T.accel)
noncomputable def decdV (T : Tr) (p : List Sgm) (e : Es) (en old : Int) : Int :=
  if aheadB T p e en = false ∨ (old = 2 ∧ 0 < e.speed) then 2 else if permV T p e en < e.speed then 1 else 0
theorem safeB_true {T : Tr} {p : List Sgm} {e : Es} {en : Int} : safeB T p e en = true ↔ reachB p e en = true ∧ e.max + dstV e.speed (weakV T p e.min en) T.delay ≤ en := by
  unfold safeB haltB; rw [Bool.and_eq_true, decide_eq_true_iff, Int.add_zero]
theorem aheadB_true {T : Tr} {p : List Sgm} {e : Es} {en : Int} : aheadB T p e en = true ↔ reachB p e en = true ∧ e.max + (e.speed + T.accel) + dstV (e.speed + T.accel) (weakV T p e.min en) T.delay ≤ en := by
  unfold aheadB haltB; rw [Bool.and_eq_true, decide_eq_true_iff]
theorem ahead_safe {T : Tr} {p : List Sgm} {e : Es} {en : Int} (hs : 0 ≤ e.speed) (ha : 0 ≤ T.accel) (h : aheadB T p e en = true) : safeB T p e en = true := by
  rw [aheadB_true] at h; rw [safeB_true]
  have := dstV_mono (dec := weakV T p e.min en) (delay := T.delay) (show e.speed ≤ e.speed + T.accel by omega)
  exact ⟨h.1, by omega⟩
theorem reach_less {p : List Sgm} {e f : Es} {en : Int} (h : reachB p e en = true) (hm : f.min = e.min) : reachB p f en = true := by
  rw [reachB_true] at h ⊢; rw [hm]; exact h
theorem safe_less {T : Tr} {p : List Sgm} {e f : Es} {en : Int} (h : safeB T p e en = true) (hm : f.min = e.min) (h1 : f.max ≤ e.max) (h2 : f.speed ≤ e.speed) : safeB T p f en = true := by
  rw [safeB_true] at h ⊢
  have := dstV_mono (dec := weakV T p e.min en) (delay := T.delay) h2
  exact ⟨reach_less h.1 hm, by rw [hm]; omega⟩
theorem ahead_less {T : Tr} {p : List Sgm} {e f : Es} {en : Int} (h : aheadB T p e en = true) (hm : f.min = e.min) (h1 : f.max ≤ e.max) (h2 : f.speed ≤ e.speed) : aheadB T p f en = true := by
  rw [aheadB_true] at h ⊢
  have := dstV_mono (dec := weakV T p e.min en) (delay := T.delay) (show f.speed + T.accel ≤ e.speed + T.accel by omega)
  exact ⟨reach_less h.1 hm, by rw [hm]; omega⟩
theorem decd_two {T : Tr} {p : List Sgm} {e : Es} {en old : Int} (h : aheadB T p e en = false) : decdV T p e en old = 2 := by
  unfold decdV; rw [if_pos (.inl h)]
theorem decd_bd (T : Tr) (p : List Sgm) (e : Es) (en old : Int) : 0 ≤ decdV T p e en old ∧ decdV T p e en old ≤ 2 := by
  unfold decdV; split
  · omega
  · split <;> omega
theorem decd_not {T : Tr} {p : List Sgm} {e : Es} {en old : Int} (h : decdV T p e en old ≠ 2) : aheadB T p e en = true ∧ ¬ (old = 2 ∧ 0 < e.speed) := by
  unfold decdV at h
  split at h
  · omega
  · rename_i k
    rw [not_or] at k
    refine ⟨?_, k.2⟩
    cases hb : aheadB T p e en
    · exact absurd hb k.1
    · rfl
/-! ### On one gradient -/
def LevelP (p : List Sgm) : Prop := ∀ s ∈ p, s.grade = (p.getD 0 Sgm.z).grade
theorem steep_level {p : List Sgm} {f t : Int} (hv : validB p = true) (hl : LevelP p) (ht : ∃ s ∈ p, touchB f t s = true) : steepV p f t = (p.getD 0 Sgm.z).grade := by
  obtain ⟨s, hs, hb⟩ := ht
  unfold steepV touL
  rw [if_pos hv]
  have hn : (p.filter (touchB f t)).map Sgm.grade ≠ [] := by
    intro h0
    have : s ∈ p.filter (touchB f t) := List.mem_filter.2 ⟨hs, hb⟩
    rw [List.map_eq_nil_iff.1 h0] at this
    cases this
  obtain ⟨u, hu, he⟩ := List.mem_map.1 (leastL_mem _ hn)
  rw [← he]
  exact hl u (List.mem_filter.1 hu).1
theorem perm_end {T : Tr} {p : List Sgm} {e : Es} {a b : Int} (hab : b ≤ a) (hd : decV T p e b = decV T p e a) : permV T p e b ≤ permV T p e a := by
  unfold permV
  split
  · rw [hd]
    have hs : stopV T (decV T p e a) e b ≤ stopV T (decV T p e a) e a := by
      have := spdV_mono (dec := decV T p e a) (delay := T.delay) (show b - e.max ≤ a - e.max by omega)
      unfold stopV; omega
    obtain ⟨k1, k2⟩ := minL_le (ahdL (decV T p e a) T.delay e.max p) (min (ceilV T p e) (stopV T (decV T p e a) e b))
    refine minL_ge _ _ _ (by omega) k2
  · omega
/-- A nearer end: the same conditions, stricter. -/
theorem near_ahead {T : Tr} {p : List Sgm} {e : Es} {a b moved u : Int} (hab : b ≤ a) (hm : e.min ≤ e.max) (hl : LevelP p) (hr : reachB p e b = true) (hlast : a ≤ lastT p) (hmv : 0 ≤ moved)
    (h : e.max + moved + dstV u (weakV T p e.min b) T.delay ≤ b) : reachB p e a = true ∧ e.max + moved + dstV u (weakV T p e.min a) T.delay ≤ a ∧ decV T p e b = decV T p e a := by
  rw [reachB_true] at hr
  obtain ⟨r1, r2, r3, r4⟩ := hr
  have hp := (dstV_bd u (weakV T p e.min b) T.delay).1
  have hmin : e.min ≤ b := by omega
  have e1 := steep_level r1 hl (touch_first r1 r2 r3 (show e.min ≤ lastT p by omega) hmin)
  have e2 := steep_level r1 hl (touch_first r1 r2 r3 (show e.min ≤ lastT p by omega) (show e.min ≤ a by omega))
  have ew : weakV T p e.min b = weakV T p e.min a := by unfold weakV; rw [e1, e2]
  rw [ew] at h
  refine ⟨reachB_true.2 ⟨r1, r2, r3, hlast⟩, by omega, ?_⟩
  unfold decV; rw [e1, e2]
theorem near_decides {T : Tr} {p : List Sgm} {e : Es} {a b : Int} (old : Int) (hab : b ≤ a) (hm : e.min ≤ e.max) (hl : LevelP p) (hlast : a ≤ lastT p) (hs : 0 ≤ e.speed) (hac : 0 ≤ T.accel) : decdV T p e a old ≤ decdV T p e b old := by
  by_cases h2 : decdV T p e b old = 2
  · have := decd_bd T p e a old; omega
  · obtain ⟨k1, k2⟩ := decd_not h2
    obtain ⟨g1, g2⟩ := aheadB_true.1 k1
    obtain ⟨n1, n2, n3⟩ := near_ahead (T := T) hab hm hl g1 hlast (by omega) g2
    have ha : aheadB T p e a = true := aheadB_true.2 ⟨n1, n2⟩
    have hp := perm_end hab n3
    have ea : decdV T p e a old = if permV T p e a < e.speed then 1 else 0 := by
      unfold decdV
      refine if_neg ?_
      rintro (h | h)
      · rw [ha] at h; cases h
      · exact k2 h
    have eb : decdV T p e b old = if permV T p e b < e.speed then 1 else 0 := by
      unfold decdV
      refine if_neg ?_
      rintro (h | h)
      · rw [k1] at h; cases h
      · exact k2 h
    rw [ea, eb]
    split <;> split <;> omega
theorem near_safe {T : Tr} {p : List Sgm} {e : Es} {a b : Int} (hab : b ≤ a) (hm : e.min ≤ e.max) (hl : LevelP p) (hlast : a ≤ lastT p) (h : safeB T p e b = true) : safeB T p e a = true := by
  obtain ⟨g1, g2⟩ := safeB_true.1 h
  obtain ⟨n1, n2, _⟩ := near_ahead (T := T) (moved := 0) (u := e.speed) hab hm hl g1 hlast (by omega) (by omega)
  exact safeB_true.2 ⟨n1, by omega⟩
/-- The profile ends ahead of the end: the emergency brake. -/
theorem short_decides {T : Tr} {p : List Sgm} {e : Es} {en old : Int} (h : p.length = 0 ∨ lastT p < en) : decdV T p e en old = 2 := by
  refine decd_two ?_
  cases hb : aheadB T p e en
  · rfl
  · obtain ⟨g, _⟩ := aheadB_true.1 hb
    rw [reachB_true] at g; omega

/-! ### A supervised train never passes the end -/
theorem steep_le {p : List Sgm} {f t : Int} {s : Sgm} (hv : validB p = true) (hs : s ∈ p) (h : touchB f t s = true) : steepV p f t ≤ s.grade := by
  unfold steepV touL
  rw [if_pos hv]
  exact leastL_le _ _ (List.mem_map.2 ⟨s, List.mem_filter.2 ⟨hs, h⟩, rfl⟩)
theorem steep_at {p : List Sgm} {f t x : Int} (hv : validB p = true) (h0 : 0 < p.length) (hf : headF p ≤ f) (hx : f ≤ x) (hxt : x ≤ t) (ht : t ≤ lastT p) : steepV p f t ≤ steepV p x x := by
  obtain ⟨s, hs, hb⟩ := touch_first (f := x) (t := x) hv h0 (by omega) (by omega) (Int.le_refl _)
  have hn : (p.filter (touchB x x)).map Sgm.grade ≠ [] := by
    intro h0
    have : s ∈ p.filter (touchB x x) := List.mem_filter.2 ⟨hs, hb⟩
    rw [List.map_eq_nil_iff.1 h0] at this
    cases this
  obtain ⟨u, hu, he⟩ := List.mem_map.1 (leastL_mem _ hn)
  have e : steepV p x x = u.grade := by unfold steepV touL; rw [if_pos hv]; exact he.symm
  obtain ⟨hu1, hu2⟩ := List.mem_filter.1 hu
  rw [touchB_iff] at hu2
  rw [e]
  exact steep_le hv hu1 (touchB_iff.2 ⟨by omega, by omega⟩)
theorem effV_mono {dec g h : Int} (k : g ≤ h) : effV dec g ≤ effV dec h := by unfold effV clampV; omega
/-- What holds between two cycles: the deceleration D holds from here to the end, and the way that is needed fits; b: the cycles for which the emergency brake has been applied. -/
structure SupOk (T : Tr) (p : List Sgm) (en x v b D : Int) : Prop where
  x0 : 0 ≤ x
  v0 : 0 ≤ v
  v1 : v ≤ 10000
  b0 : 0 ≤ b
  hold : ∀ y, x ≤ y → y ≤ en → D ≤ effV T.emergency (steepV p y y)
  fits : x + dstV v D (max 0 (T.delay - b)) ≤ en
theorem SupOk.le {T : Tr} {p : List Sgm} {en x v b D : Int} (h : SupOk T p en x v b D) : x ≤ en := by
  have := (dstV_bd v D (max 0 (T.delay - b))).1; have := h.fits; omega
/-- How a situation in which the train can stop gives such a deceleration. -/
theorem sup_of {T : Tr} {p : List Sgm} {e : Es} {en x v w far : Int} (hr : reachB p e en = true) (hx : e.min ≤ x) (h0 : 0 ≤ x) (hv0 : 0 ≤ v) (hv1 : v ≤ 10000) (hvw : v ≤ w) (hxf : x ≤ far) (hd : 0 ≤ T.delay) (h : far + dstV w (weakV T p e.min en) T.delay ≤ en) : SupOk T p en x v 0 (weakV T p e.min en) := by
  obtain ⟨r1, r2, r3, r4⟩ := reachB_true.1 hr
  refine ⟨h0, hv0, hv1, by omega, fun y hy hye => effV_mono (steep_at r1 r2 r3 (by omega) hye r4), ?_⟩
  have := dstV_mono (dec := weakV T p e.min en) (delay := T.delay) hvw
  rw [show max 0 (T.delay - 0) = T.delay by omega]
  omega
/-- A cycle with the emergency brake. -/
theorem sup_brake {T : Tr} {p : List Sgm} {en x v b D more : Int} (h : SupOk T p en x v b D) (hd0 : 0 ≤ T.delay) (hd : T.delay ≤ 5) (hen : en ≤ 268435456) (hm : 0 ≤ more) :
    let v' := if T.delay < b + 1 then max 0 (v - effV T.emergency (steepV p x x) - more) else v
    SupOk T p en (x + v') v' (b + 1) D ∧ 0 ≤ v' ∧ v' ≤ v := by
  have hle := h.le
  obtain ⟨x0, v0, v1, b0, hold, fits⟩ := h
  have hD := hold x (Int.le_refl _) hle
  by_cases hv : v ≤ 0
  · have hv : v = 0 := by omega
    subst hv
    have he := (effV_bd T.emergency (steepV p x x)).1
    have hv' : (if T.delay < b + 1 then max 0 (0 - effV T.emergency (steepV p x x) - more) else (0 : Int)) = 0 := by split <;> omega
    intro v'
    have hv'' : v' = 0 := hv'
    rw [hv'']
    refine ⟨⟨by omega, by omega, by omega, by omega, fun y hy => hold y (by omega), ?_⟩, by omega, by omega⟩
    have : dstV 0 D (max 0 (T.delay - (b + 1))) = 0 := by unfold dstV; rw [if_pos (by omega)]
    omega
  · have hd1 : 1 ≤ D := by
      rcases Int.lt_or_le D 1 with h1 | h1
      · have : dstV v D (max 0 (T.delay - b)) = 1073741824 := by unfold dstV; rw [if_neg hv, if_pos h1]
        omega
      · exact h1
    have one := dst_one (v := v) (dec := D) (by omega) (by omega) hd1
    intro v'
    by_cases c : T.delay < b + 1
    · have hv' : v' = max 0 (v - effV T.emergency (steepV p x x) - more) := if_pos c
      have hle' : v' ≤ max 0 (v - D) := by omega
      have m := dstV_mono (dec := D) (delay := 0) hle'
      rw [show max 0 (T.delay - b) = 0 by omega] at fits
      refine ⟨⟨by omega, by omega, by omega, by omega, fun y hy => hold y (by omega), ?_⟩, by omega, by omega⟩
      rw [show max 0 (T.delay - (b + 1)) = 0 by omega]
      omega
    · have hv' : v' = v := if_neg c
      rw [hv']
      have w1 := dst_wait (v := v) (dec := D) (max 0 (T.delay - b)) (by omega) hd1
      have w2 := dst_wait (v := v) (dec := D) (max 0 (T.delay - (b + 1))) (by omega) hd1
      have s1 : stV v = v := by unfold stV; omega
      have t1 : wtV (max 0 (T.delay - b)) = T.delay - b := by unfold wtV clampV; omega
      have t2 : wtV (max 0 (T.delay - (b + 1))) = T.delay - b - 1 := by unfold wtV clampV; omega
      rw [s1, t1] at w1
      rw [s1, t2] at w2
      have : (T.delay - b) * v = (T.delay - b - 1) * v + v := by
        rw [show T.delay - b = (T.delay - b - 1) + 1 by omega, Int.add_mul, Int.one_mul]; congr 2; omega
      refine ⟨⟨by omega, by omega, by omega, by omega, fun y hy => hold y (by omega), by omega⟩, by omega, by omega⟩
/-- A cycle without it. -/
theorem sup_free {T : Tr} {p : List Sgm} {e : Es} {en x v push v' : Int} (hh : aheadB T p e en = true) (h1 : e.min ≤ x) (h2 : x ≤ e.max) (h3 : v ≤ e.speed) (x0 : 0 ≤ x) (v0 : 0 ≤ v) (ha : 0 ≤ T.accel) (hd : 0 ≤ T.delay)
    (hv' : v' = max 0 (min (v + min push T.accel) 10000)) : SupOk T p en (x + v') v' 0 (weakV T p e.min en) := by
  obtain ⟨r, k⟩ := aheadB_true.1 hh
  exact sup_of (w := e.speed + T.accel) (far := e.max + (e.speed + T.accel)) r (by omega) (by omega) (by omega) (by omega) (by omega) (by omega) hd k
end Sg

set_option linter.unusedVariables false
set_option linter.unusedSimpArgs false
namespace Sg

/-- A linked balise; a reading. -/
structure Lnk where
  id : Int
  at_ : Int
def Lnk.z : Lnk := ⟨0, 0⟩
structure Rea where
  id : Int
  off : Int
theorem Lnk.eq {s t : Lnk} (h0 : s.id = t.id) (h1 : s.at_ = t.at_) : s = t := by cases s; cases t; simp_all
/-- The first index from f on of the balise id. -/
def IsFnd (l : List Lnk) (f : Nat) (id : Int) (i : Nat) : Prop := f ≤ i ∧ i < l.length ∧ (l.getD i Lnk.z).id = id ∧ ∀ j, f ≤ j → j < i → (l.getD j Lnk.z).id ≠ id
theorem IsFnd.eq {l : List Lnk} {f : Nat} {id : Int} {i j : Nat} (h : IsFnd l f id i) (g : IsFnd l f id j) : i = j := by
  obtain ⟨h1, h2, h3, h4⟩ := h
  obtain ⟨g1, g2, g3, g4⟩ := g
  rcases Nat.lt_trichotomy i j with c | c | c
  · exact absurd h3 (g4 i h1 c)
  · exact c
  · exact absurd g3 (h4 j g1 c)
open Classical in
noncomputable def fndO (l : List Lnk) (f : Nat) (id : Int) : Option Nat := if h : ∃ i, IsFnd l f id i then some h.choose else none
theorem fnd_some {l : List Lnk} {f : Nat} {id : Int} {i : Nat} (h : IsFnd l f id i) : fndO l f id = some i := by
  have hx : ∃ i, IsFnd l f id i := ⟨i, h⟩
  rw [fndO, dif_pos hx, hx.choose_spec.eq h]
theorem fnd_none {l : List Lnk} {f : Nat} {id : Int} (h : ∀ j, f ≤ j → j < l.length → (l.getD j Lnk.z).id ≠ id) : fndO l f id = none := by
  rw [fndO, dif_neg]
  rintro ⟨i, h1, h2, h3, _⟩
  exact h i h1 h2 h3
theorem fnd_is {l : List Lnk} {f : Nat} {id : Int} {i : Nat} (h : fndO l f id = some i) : IsFnd l f id i := by
  rw [fndO] at h
  split at h
  · rename_i hx
    cases h
    exact hx.choose_spec
  · cases h
def optI : Option Nat → Int
  | none => -1
  | some i => i
/-- How an index is brought into the list. -/
def clN (next : Int) (n : Nat) : Nat := (max 0 (min next (n : Int))).toNat
theorem clN_le (next : Int) (n : Nat) : clN next n ≤ n := by unfold clN; omega
noncomputable def readN (l : List Lnk) (next id : Int) : Int := match fndO l (clN next l.length) id with
  | none => clN next l.length
  | some i => (i : Int) + 1
noncomputable def readK (l : List Lnk) (next id : Int) : Int := match fndO l (clN next l.length) id with
  | none => 0
  | some i => if i = clN next l.length then 1 else 2
theorem readN_bd {l : List Lnk} {next id : Int} : 0 ≤ readN l next id ∧ readN l next id ≤ l.length := by
  unfold readN
  have := clN_le next l.length
  cases h : fndO l (clN next l.length) id with
  | none => simp only; omega
  | some i => obtain ⟨_, h2, _⟩ := fnd_is h; simp only; omega
theorem readK_good {l : List Lnk} {next id : Int} (h : readK l next id ≠ 0) : 1 ≤ readN l next id := by
  unfold readK at h
  unfold readN
  cases h1 : fndO l (clN next l.length) id with
  | none => rw [h1] at h; exact absurd rfl h
  | some i => simp only; omega
def IsOvd (l : List Lnk) (n : Nat) (m : Int) (i : Nat) : Prop := n ≤ i ∧ i ≤ l.length ∧ (∀ j, n ≤ j → j < i → (l.getD j Lnk.z).at_ + 500 < m) ∧ (i = l.length ∨ m ≤ (l.getD i Lnk.z).at_ + 500)
theorem IsOvd.eq {l : List Lnk} {n : Nat} {m : Int} {i j : Nat} (h : IsOvd l n m i) (g : IsOvd l n m j) : i = j := by
  obtain ⟨h1, h2, h3, h4⟩ := h
  obtain ⟨g1, g2, g3, g4⟩ := g
  rcases Nat.lt_trichotomy i j with c | c | c
  · have := g3 i h1 c; omega
  · exact c
  · have := h3 j g1 c; omega
open Classical in
noncomputable def ovdV (l : List Lnk) (next m : Int) : Int := if h : ∃ i, IsOvd l (clN next l.length) m i then (h.choose : Int) else 0
theorem ovd_of {l : List Lnk} {next m : Int} {i : Nat} (h : IsOvd l (clN next l.length) m i) : ovdV l next m = i := by
  have hx : ∃ i, IsOvd l (clN next l.length) m i := ⟨i, h⟩
  rw [ovdV, dif_pos hx, hx.choose_spec.eq h]
/-- Links that may stand in an authority. -/
def LkTo (l : List Lnk) (i : Nat) : Prop := (i = 0 ∨ (l.getD (i - 1) Lnk.z).at_ ≤ (l.getD i Lnk.z).at_) ∧ ∀ j, j < i → (l.getD j Lnk.z).id ≠ (l.getD i Lnk.z).id
def LkValid (l : List Lnk) : Prop := l.length ≤ 24 ∧ ∀ i, i < l.length → LkTo l i
open Classical in
noncomputable def lkvB (l : List Lnk) : Bool := decide (LkValid l)
theorem lkvB_true {l : List Lnk} : lkvB l = true ↔ LkValid l := by simp [lkvB]
theorem lkvB_false {l : List Lnk} : lkvB l = false ↔ ¬ LkValid l := by simp [lkvB]
noncomputable def avalB (seq en : Int) (p : List Sgm) (k : List Lnk) : Bool := decide (1 ≤ seq) && (decide (seq ≤ 1073741824) && (validB p && (decide (0 < p.length) && (decide (lastT p = en) && lkvB k))))
/-- What balise is expected next with new links. -/
def farB (m : Int) (x : Lnk) : Bool := decide (x.at_ < m - 500)
def cntV (l : List Lnk) (m : Int) : Int := (l.filter (farB m)).length
noncomputable def lastO (next : Int) (old l : List Lnk) : Option Nat := if 1 ≤ next ∧ next ≤ old.length then fndO l 0 (old.getD (next - 1).toNat Lnk.z).id else none
noncomputable def expV (next : Int) (old l : List Lnk) (m : Int) : Int := match lastO next old l with
  | none => cntV l m
  | some i => (i : Int) + 1
theorem expV_bd (next : Int) (old l : List Lnk) (m : Int) : 0 ≤ expV next old l m ∧ expV next old l m ≤ l.length := by
  unfold expV
  cases h : lastO next old l with
  | none =>
    have := List.length_filter_le (farB m) l
    simp only [cntV]; omega
  | some i =>
    unfold lastO at h
    split at h
    · obtain ⟨_, h2, _⟩ := fnd_is h; simp only; omega
    · cases h
/-- Sessions and modes. -/
def recB (a b l : Int) : Bool := decide (a ≤ b) && decide (b - a ≤ l)
def nxV (m e : Int) : Int :=
  if m < 1 ∨ 7 < m then 0 else
  if e = 1 then (if m = 4 ∨ m = 6 then 0 else 2) else
  if e = 2 then (if m = 2 ∨ m = 3 ∨ m = 4 ∨ m = 5 then 6 else 0) else
  if e = 3 then (if m = 6 then 7 else 0) else
  if e = 4 then (if m = 1 ∨ m = 2 ∨ m = 7 then 3 else 0) else
  if e = 5 then (if m = 1 ∨ m = 7 then 4 else 0) else
  if e = 6 then (if m = 1 ∨ m = 2 then 5 else 0) else
  if e = 7 then (if m = 1 ∨ m = 6 then 0 else 1) else 0
def limV (m : Int) : Int := if m = 2 then 10000 else if m = 3 then 1100 else if m = 4 then 800 else if m = 5 then 2200 else 0
/-- The on-board unit, a message. -/
structure Cb where
  T : Tr
  mode : Int
  brake : Int
  next : Int
  E : Es
  seq : Int
  en : Int
  p : List Sgm
  k : List Lnk
  peer : Int
  out : Int
  inn : Int
  heard : Int
  known : Bool
  since : Int
structure Ms where
  kind : Int
  frm : Int
  to_ : Int
  seq : Int
  time : Int
  aseq : Int
  aen : Int
  p : List Sgm
  k : List Lnk
  rmin : Int
  rspeed : Int
  rmode : Int
  racc : Int
  rwhole : Bool
def newC (T : Tr) (now : Int) : Cb := ⟨T, 1, 2, 0, ⟨0, 0, 0⟩, 0, 0, [], [], 0, 0, 0, now, false, 0⟩
noncomputable def decBr (c : Cb) (now : Int) : Int :=
  if c.mode = 2 then (if c.en < c.E.min then 2 else if decdV c.T c.p c.E c.en c.brake = 0 ∧ recB c.heard now 6 = false then 1 else decdV c.T c.p c.E c.en c.brake)
  else if c.mode = 3 ∨ c.mode = 4 ∨ c.mode = 5 then (if c.brake = 2 ∧ 0 < c.E.speed then 2 else if limV c.mode < c.E.speed then 1 else 0)
  else 2
def decMo (c : Cb) : Int := if c.mode = 2 ∧ c.en < c.E.min then 6 else c.mode
noncomputable def decC (c : Cb) (now : Int) : Cb := { c with mode := decMo c, brake := decBr c now }
def evE (c : Cb) (ev : Int) : Int := if ev < 2 ∨ 7 < ev then 1 else if nxV c.mode ev = 0 then 11 else if (ev = 3 ∨ ev = 7) ∧ c.E.speed ≠ 0 then 11 else 0
def evC (c : Cb) (ev : Int) : Cb := if evE c ev = 0 then { c with mode := nxV c.mode ev } else c
def takE (c : Cb) (m : Ms) (now : Int) : Int := if m.frm ≠ c.peer then 1 else if recB m.time now 4 = false then 15 else if m.seq ≤ c.inn then 7 else 0
noncomputable def graE (c : Cb) (m : Ms) (sh : Bool) : Int :=
  if avalB m.aseq m.aen m.p m.k = false then 1 else if nxV c.mode 1 = 0 then 11 else if sh = true ∧ (c.mode ≠ 2 ∨ c.en < m.aen) then 11 else if m.aseq ≤ c.seq then 7 else if safeB c.T m.p c.E m.aen = false then 14 else 0
noncomputable def graN (c : Cb) (m : Ms) : Cb := { c with next := expV c.next c.k m.k c.E.min, seq := m.aseq, en := m.aen, p := m.p, k := m.k, mode := nxV c.mode 1 }
noncomputable def graC (c : Cb) (m : Ms) (sh : Bool) : Cb := if graE c m sh = 0 then graN c m else c
def tokC (c : Cb) (m : Ms) (now : Int) : Cb := { c with inn := m.seq, heard := now }
def stoE (c : Cb) : Int := if nxV c.mode 2 = 0 then 11 else 0
def stoC (c : Cb) : Cb := if nxV c.mode 2 = 0 then c else { c with mode := nxV c.mode 2 }
noncomputable def effE (c : Cb) (m : Ms) : Int := if m.kind = 2 then graE c m false else if m.kind = 3 then graE c m true else if m.kind = 4 then stoE c else if m.kind = 5 then 0 else 1
noncomputable def effC (c : Cb) (m : Ms) : Cb := if m.kind = 2 then graC c m false else if m.kind = 3 then graC c m true else if m.kind = 4 then stoC c else c
noncomputable def recE (c : Cb) (m : Ms) (now : Int) : Int := if takE c m now = 0 then effE (tokC c m now) m else takE c m now
noncomputable def recC (c : Cb) (m : Ms) (now : Int) : Cb := if takE c m now = 0 then effC (tokC c m now) m else c
/-- Measuring. -/
noncomputable def reaE (c : Cb) (n : Int) (e : Es) (r : Rea) : Es := if readK c.k n r.id = 0 then e else fixV c.T.cons c.T.rate e (c.k.getD (readN c.k n r.id - 1).toNat Lnk.z).at_ r.off
noncomputable def reaS (c : Cb) (s : Int × Es) (r : Rea) : Int × Es := (readN c.k s.1 r.id, reaE c s.1 s.2 r)
noncomputable def reaL (c : Cb) (m : Int) (rs : List Rea) : Int × Es := rs.foldl (reaS c) (c.next, addV c.T.cons c.T.rate c.E m)
noncomputable def meaC (c : Cb) (m : Int) (rs : List Rea) (whole : Bool) (now : Int) : Cb :=
  { c with E := (reaL c m rs).2, next := ovdV c.k (reaL c m rs).1 (reaL c m rs).2.min, known := whole || c.known, since := if whole = true then now else c.since }
theorem reaL_take {c : Cb} {m : Int} {rs : List Rea} {k : Nat} {r : Rea} (h : rs[k]? = some r) : reaL c m (rs.take (k + 1)) = reaS c (reaL c m (rs.take k)) r := by
  obtain ⟨hl, rfl⟩ := List.getElem?_eq_some_iff.1 h
  unfold reaL
  rw [List.take_succ_eq_append_getElem hl, List.foldl_append]
  rfl
/-- Reporting. -/
def outV (c : Cb) : Int := if c.out < 1073741824 then c.out + 1 else c.out
def repC (c : Cb) : Cb := { c with out := outV c }
def whoB (c : Cb) (now : Int) : Bool := c.known && recB c.since now 5
def repM (c : Cb) (now : Int) : Ms := ⟨1, c.T.id, c.peer, outV c, now, 0, 0, [], [], c.E.min, c.E.speed, c.mode, c.seq, whoB c now⟩
/-- A unit of the chapter. -/
structure CbOk (c : Cb) : Prop where
  tr : TrOk c.T
  min : -1073741824 ≤ c.E.min ∧ c.E.min ≤ 1073741824
  max : -1073741824 ≤ c.E.max ∧ c.E.max ≤ 1073741824
  spd : 0 ≤ c.E.speed ∧ c.E.speed ≤ 1073741824
  en : -1073741824 ≤ c.en ∧ c.en ≤ 1073741824
  lk : ∀ (i : Nat) x, c.k[i]? = some x → -1073741824 ≤ x.at_ ∧ x.at_ ≤ 1073741824
end Sg
