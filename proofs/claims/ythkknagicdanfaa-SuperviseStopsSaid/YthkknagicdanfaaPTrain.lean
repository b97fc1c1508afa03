/- Plain mathematics of trains: names, ranges, the odometer's error and what it may measure. No program in sight. -/
import Derived.Test.YthkknagicdanfaaPNum
set_option linter.unusedVariables false
set_option linter.unusedSimpArgs false
namespace Sg

/-- A letter, or (not at the beginning) a digit or a low line. -/
def okI (i : Nat) (c : Int) : Bool := (decide (97 ≤ c) && decide (c ≤ 122)) || (!(i == 0) && ((decide (48 ≤ c) && decide (c ≤ 57)) || c == 95))
def okTo (l : List UInt8) (k : Nat) : Prop := ∀ j, j < k → okI j ((l.getD j 0).toNat : Int) = true
def nameB (l : List UInt8) : Bool := (List.range l.length).all (fun j => okI j ((l.getD j 0).toNat : Int)) && decide (1 ≤ l.length) && decide (l.length ≤ 12)
theorem okTo_zero (l : List UInt8) : okTo l 0 := fun j h => absurd h (by omega)
theorem okTo_succ {l : List UInt8} {k : Nat} (h : okTo l k) (hk : okI k ((l.getD k 0).toNat : Int) = true) : okTo l (k + 1) := fun j hj => by
  by_cases e : j = k
  · subst e; exact hk
  · exact h j (by omega)
theorem nameB_all {l : List UInt8} (h : okTo l l.length) : nameB l = (decide (1 ≤ l.length) && decide (l.length ≤ 12)) := by
  unfold nameB
  have : (List.range l.length).all (fun j => okI j ((l.getD j 0).toNat : Int)) = true := by
    rw [List.all_eq_true]; intro j hj; exact h j (List.mem_range.1 hj)
  rw [this]; simp
theorem nameB_bad {l : List UInt8} {k : Nat} (hk : k < l.length) (h : okI k ((l.getD k 0).toNat : Int) = false) : nameB l = false := by
  unfold nameB
  have : (List.range l.length).all (fun j => okI j ((l.getD j 0).toNat : Int)) = false := by
    rw [List.all_eq_false]; exact ⟨k, List.mem_range.2 hk, by rw [h]; simp⟩
  rw [this]; simp

/-- The data of a train. -/
structure Tr where
  id : Int
  name : ByteArray
  len : Int
  speed : Int
  accel : Int
  service : Int
  emergency : Int
  delay : Int
  cons : Int
  rate : Int

def inB (n lo hi : Int) : Bool := decide (lo ≤ n) && decide (n ≤ hi)
theorem inB_true {n lo hi : Int} : inB n lo hi = true ↔ lo ≤ n ∧ n ≤ hi := by simp [inB]
theorem inB_false {n lo hi : Int} : inB n lo hi = false ↔ ¬ (lo ≤ n ∧ n ≤ hi) := by simp [inB]
def chkE (T : Tr) : Int :=
  if nameB T.name.data.toList = false then 3
  else if inB T.id 1 99 && inB T.len 1 50000 && inB T.speed 1 10000 && inB T.accel 1 200 && inB T.service 1 200 && inB T.emergency T.service 200 && inB T.delay 0 5 && inB T.cons 0 500 && inB T.rate 0 100 then 0
  else 1
structure TrOk (T : Tr) : Prop where
  name : nameB T.name.data.toList = true
  id : 1 ≤ T.id ∧ T.id ≤ 99
  len : 1 ≤ T.len ∧ T.len ≤ 50000
  speed : 1 ≤ T.speed ∧ T.speed ≤ 10000
  accel : 1 ≤ T.accel ∧ T.accel ≤ 200
  service : 1 ≤ T.service ∧ T.service ≤ 200
  emergency : T.service ≤ T.emergency ∧ T.emergency ≤ 200
  delay : 0 ≤ T.delay ∧ T.delay ≤ 5
  cons : 0 ≤ T.cons ∧ T.cons ≤ 500
  rate : 0 ≤ T.rate ∧ T.rate ≤ 100
theorem chkE_ok {T : Tr} (h : chkE T = 0) : TrOk T := by
  unfold chkE at h
  split at h
  · omega
  · rename_i hn
    split at h
    · rename_i hc
      simp only [Bool.and_eq_true, inB_true] at hc
      obtain ⟨⟨⟨⟨⟨⟨⟨⟨h1, h2⟩, h3⟩, h4⟩, h5⟩, h6⟩, h7⟩, h8⟩, h9⟩ := hc
      exact ⟨by simpa using hn, h1, h2, h3, h4, h5, h6, h7, h8, h9⟩
    · omega

def errV (c r m : Int) : Int := if m ≤ 0 then 0 else c + min m 1073741824 * r / 1000
theorem errV_pos {c r m : Int} (h : 0 < m) : errV c r m = c + min m 1073741824 * r / 1000 := by rw [errV, if_neg (by omega)]
theorem mul_bd {m r : Int} (h0 : 0 < m) (hm : m ≤ 1073741824) (hr : 0 ≤ r ∧ r ≤ 100) : 0 ≤ m * r ∧ m * r ≤ 107374182400 := by
  refine ⟨Int.mul_nonneg (by omega) (by omega), ?_⟩
  have := Int.mul_le_mul hm hr.2 hr.1 (by omega)
  omega
theorem errV_bd {c r : Int} (m : Int) (hc : 0 ≤ c ∧ c ≤ 500) (hr : 0 ≤ r ∧ r ≤ 100) : 0 ≤ errV c r m ∧ errV c r m ≤ 107374682 := by
  by_cases h : m ≤ 0
  · rw [errV, if_pos h]; omega
  · rw [errV_pos (by omega)]
    have := @mul_bd (min m 1073741824) r (by omega) (by omega) hr
    omega
theorem errV_step {c r : Int} (m : Int) (hc : 0 ≤ c ∧ c ≤ 500) (hr : 0 ≤ r ∧ r ≤ 100) (hm : 1 ≤ m) : errV c r m ≤ errV c r (m + 1) ∧ errV c r (m + 1) ≤ errV c r m + 1 := by
  rw [errV_pos (by omega), errV_pos (by omega)]
  by_cases h : m < 1073741824
  · have e1 : min m 1073741824 = m := by omega
    have e2 : min (m + 1) 1073741824 = m + 1 := by omega
    have e3 : (m + 1) * r = m * r + r := by grind
    rw [e1, e2, e3]; omega
  · have e1 : min m 1073741824 = 1073741824 := by omega
    have e2 : min (m + 1) 1073741824 = 1073741824 := by omega
    rw [e1, e2]; omega
theorem errV_le {c r : Int} {m : Int} (hc : 0 ≤ c ∧ c ≤ 500) (hr : 0 ≤ r ∧ r ≤ 100) (hm : 1 ≤ m) (n : Nat) : errV c r m ≤ errV c r (m + n) ∧ errV c r (m + n) ≤ errV c r m + n := by
  induction n with
  | zero => simp
  | succ n ih =>
    have := @errV_step c r (m + n) hc hr (by omega)
    have e : m + ((n + 1 : Nat) : Int) = m + n + 1 := by omega
    rw [e]; omega

def mayB (c r d m : Int) : Bool := decide (1 ≤ m) && (decide (m - d ≤ errV c r m) && decide (d - m ≤ errV c r m))
theorem mayB_true {c r d m : Int} : mayB c r d m = true ↔ 1 ≤ m ∧ m - d ≤ errV c r m ∧ d - m ≤ errV c r m := by simp [mayB]
theorem mayB_mid {c r d x y z : Int} (hc : 0 ≤ c ∧ c ≤ 500) (hr : 0 ≤ r ∧ r ≤ 100) (hx : mayB c r d x = true) (hy : mayB c r d y = true) (h1 : x ≤ z) (h2 : z ≤ y) : mayB c r d z = true := by
  rw [mayB_true] at *
  obtain ⟨n, hn⟩ : ∃ n : Nat, z = x + n := ⟨(z - x).toNat, by omega⟩
  obtain ⟨k, hk⟩ : ∃ k : Nat, y = z + k := ⟨(y - z).toNat, by omega⟩
  have e1 := @errV_le c r x hc hr (by omega) n
  have e2 := @errV_le c r z hc hr (by omega) k
  rw [← hn] at e1
  rw [← hk] at e2
  omega
theorem mayB_self {c r d : Int} (hc : 0 ≤ c ∧ c ≤ 500) (hr : 0 ≤ r ∧ r ≤ 100) (hd : 1 ≤ d) : mayB c r d d = true := by
  have := @errV_bd c r d hc hr
  rw [mayB_true]; omega
/-- The number that may be measured nearest to the goal g. -/
def IsMeas (c r d g x : Int) : Prop := mayB c r d x = true ∧ (x = g ∨ (x < g ∧ mayB c r d (x + 1) = false) ∨ (g < x ∧ mayB c r d (x - 1) = false))
theorem IsMeas.eq {c r d g x y : Int} (hc : 0 ≤ c ∧ c ≤ 500) (hr : 0 ≤ r ∧ r ≤ 100) (hx : IsMeas c r d g x) (hy : IsMeas c r d g y) : x = y := by
  have key : ∀ x y, x < y → IsMeas c r d g x → IsMeas c r d g y → False := by
    intro x y hlt hx hy
    have a := mayB_mid hc hr hx.1 hy.1 (show x ≤ x + 1 by omega) (by omega)
    have b := mayB_mid hc hr hx.1 hy.1 (show x ≤ y - 1 by omega) (by omega)
    rcases hx.2 with h | ⟨h, h'⟩ | ⟨h, h'⟩
    · rcases hy.2 with g1 | ⟨g1, g'⟩ | ⟨g1, g'⟩
      · omega
      · omega
      · rw [b] at g'; cases g'
    · rw [a] at h'; cases h'
    · rcases hy.2 with g1 | ⟨g1, g'⟩ | ⟨g1, g'⟩
      · omega
      · omega
      · rw [b] at g'; cases g'
  by_cases h1 : x < y
  · exact (key x y h1 hx hy).elim
  · by_cases h2 : y < x
    · exact (key y x h2 hy hx).elim
    · omega
theorem IsMeas.one {c r d g x : Int} (hc : 0 ≤ c ∧ c ≤ 500) (hr : 0 ≤ r ∧ r ≤ 100) (hd : 1 ≤ d) (h : IsMeas c r d (max g 1) x) : IsMeas c r d g x := by
  obtain ⟨h1, h2⟩ := h
  have hx := (mayB_true.1 h1).1
  refine ⟨h1, ?_⟩
  by_cases hg : 1 ≤ g
  · have : max g 1 = g := by omega
    rwa [this] at h2
  · have e : max g 1 = 1 := by omega
    rw [e] at h2
    rcases h2 with h | ⟨h, _⟩ | ⟨h, h'⟩
    · refine .inr (.inr ⟨by omega, ?_⟩)
      subst h
      simp [mayB]
    · omega
    · exact .inr (.inr ⟨by omega, h'⟩)
open Classical in
noncomputable def measV (c r d s : Int) : Int := if d ≤ 0 then 0 else
  if h : ∃ x, IsMeas c r (min d 1073741824) (min d 1073741824 + clampV s (-1073741824) 1073741824) x then h.choose else 0
theorem measV_zero {c r d s : Int} (h : d ≤ 0) : measV c r d s = 0 := by rw [measV, if_pos h]
theorem measV_of {c r d s x : Int} (hc : 0 ≤ c ∧ c ≤ 500) (hr : 0 ≤ r ∧ r ≤ 100) (hd : 0 < d) (h : IsMeas c r (min d 1073741824) (min d 1073741824 + clampV s (-1073741824) 1073741824) x) : measV c r d s = x := by
  have hx : ∃ x, IsMeas c r (min d 1073741824) (min d 1073741824 + clampV s (-1073741824) 1073741824) x := ⟨x, h⟩
  rw [measV, if_neg (by omega), dif_pos hx]; exact hx.choose_spec.eq hc hr h
/-- An estimate. -/
structure Es where
  min : Int
  max : Int
  speed : Int
def addU (c r m : Int) : Int := errV c r (clampV m 0 1073741824)
def addV (c r : Int) (e : Es) (m : Int) : Es :=
  ⟨clampV (e.min + Max.max 0 (clampV m 0 1073741824 - addU c r m)) (-1073741824) 1073741824, clampV (e.max + clampV m 0 1073741824 + addU c r m) (-1073741824) 1073741824, clampV m 0 1073741824 + addU c r m⟩
def coV (n : Int) : Int := clampV n (-1073741824) 1073741824
def fixF (c r : Int) (e : Es) (at_ off : Int) : Es := ⟨Max.max e.min (coV at_ + coV off - errV c r (coV off)), Min.min e.max (coV at_ + coV off + errV c r (coV off)), e.speed⟩
def fixE (c r : Int) (e : Es) (at_ off : Int) : Int := if (fixF c r e at_ off).max < (fixF c r e at_ off).min then 10 else 0
def fixV (c r : Int) (e : Es) (at_ off : Int) : Es := if (fixF c r e at_ off).max < (fixF c r e at_ off).min then e else fixF c r e at_ off
def holdB (e : Es) (x v : Int) : Bool := decide (e.min ≤ x) && (decide (x ≤ e.max) && decide (v ≤ e.speed))
end Sg
