/- Plain mathematics of the supervision of the end of authority. No program in sight. -/
import Derived.Test.YthkknagicdanfaaPSpeeds
import Derived.Test.YthkknagicdanfaaPOdo
set_option linter.unusedVariables false
set_option linter.unusedSimpArgs false
namespace Sg

noncomputable def reachB (p : List Sgm) (e : Es) (en : Int) : Bool := validB p && (decide (0 < p.length) && (decide (headF p ≤ e.min) && decide (en ≤ lastT p)))
theorem reachB_true {p : List Sgm} {e : Es} {en : Int} : reachB p e en = true ↔ validB p = true ∧ 0 < p.length ∧ headF p ≤ e.min ∧ en ≤ lastT p := by
  unfold reachB; rw [Bool.and_eq_true, Bool.and_eq_true, Bool.and_eq_true, decide_eq_true_iff, decide_eq_true_iff, decide_eq_true_iff]
noncomputable def weakV (T : Tr) (p : List Sgm) (f t : Int) : Int := effV T.emergency (steepV p f t)
noncomputable def haltB (T : Tr) (p : List Sgm) (e : Es) (en moved u : Int) : Bool := decide (e.max + moved + dstV u (weakV T p e.min en) T.delay ≤ en)
noncomputable def safeB (T : Tr) (p : List Sgm) (e : Es) (en : Int) : Bool := reachB p e en && haltB T p e en 0 e.speed
noncomputable def aheadB (T : Tr) (p : List Sgm) (e : Es) (en : Int) : Bool := reachB p e en && haltB T p e en (e.speed + T.accel) (e.speed + T.accel)
noncomputable def decdV (T : Tr) (p : List Sgm) (e : Es) (en old : Int) : Int :=
  if aheadB T p e en = false ∨ (old = 2 ∧ 0 < e.speed) then 2 else if permV T p e en < e.speed then 1 else 0
theorem safeB_true {T : Tr} {p : List Sgm} {e : Es} {en : Int} : safeB T p e en = true ↔ reachB p e en = true ∧ e.max + dstV e.speed (weakV T p e.min en) T.delay ≤ en := by
  unfold safeB haltB; rw [Bool.and_eq_true, decide_eq_true_iff, Int.add_zero]
theorem aheadB_true {T : Tr} {p : List Sgm} {e : Es} {en : Int} : aheadB T p e en = true ↔ reachB p e en = true ∧ e.max + (e.speed + T.accel) + dstV (e.speed + T.accel) (weakV T p e.min en) T.delay ≤ en := by
  unfold aheadB haltB; rw [Bool.and_eq_true, decide_eq_true_iff]
theorem ahead_safe {T : Tr} {p : List Sgm} {e : Es} {en : Int} (hs : 0 ≤ e.speed) (ha : 0 ≤ T.accel) (h : aheadB T p e en = true) : safeB T p e en = true := by
  rw [aheadB_true] at h; rw [safeB_true]
  have := dstV_mono (dec := weakV T p e.min en) (delay := T.delay) (show e.speed ≤ e.speed + T.accel by omega)
  exact ⟨h.1, by omega⟩
theorem reach_less {p : List Sgm} {e f : Es} {en : Int} (h : reachB p e en = true) (hm : f.min = e.min) : reachB p f en = true := by
  rw [reachB_true] at h ⊢; rw [hm]; exact h
theorem safe_less {T : Tr} {p : List Sgm} {e f : Es} {en : Int} (h : safeB T p e en = true) (hm : f.min = e.min) (h1 : f.max ≤ e.max) (h2 : f.speed ≤ e.speed) : safeB T p f en = true := by
  rw [safeB_true] at h ⊢
  have := dstV_mono (dec := weakV T p e.min en) (delay := T.delay) h2
  exact ⟨reach_less h.1 hm, by rw [hm]; omega⟩
theorem ahead_less {T : Tr} {p : List Sgm} {e f : Es} {en : Int} (h : aheadB T p e en = true) (hm : f.min = e.min) (h1 : f.max ≤ e.max) (h2 : f.speed ≤ e.speed) : aheadB T p f en = true := by
  rw [aheadB_true] at h ⊢
  have := dstV_mono (dec := weakV T p e.min en) (delay := T.delay) (show f.speed + T.accel ≤ e.speed + T.accel by omega)
  exact ⟨reach_less h.1 hm, by rw [hm]; omega⟩
theorem decd_two {T : Tr} {p : List Sgm} {e : Es} {en old : Int} (h : aheadB T p e en = false) : decdV T p e en old = 2 := by
  unfold decdV; rw [if_pos (.inl h)]
theorem decd_bd (T : Tr) (p : List Sgm) (e : Es) (en old : Int) : 0 ≤ decdV T p e en old ∧ decdV T p e en old ≤ 2 := by
  unfold decdV; split
  · omega
  · split <;> omega
theorem decd_not {T : Tr} {p : List Sgm} {e : Es} {en old : Int} (h : decdV T p e en old ≠ 2) : aheadB T p e en = true ∧ ¬ (old = 2 ∧ 0 < e.speed) := by
  unfold decdV at h
  split at h
  · omega
  · rename_i k
    rw [not_or] at k
    refine ⟨?_, k.2⟩
    cases hb : aheadB T p e en
    · exact absurd hb k.1
    · rfl
/-! ### On one gradient -/
def LevelP (p : List Sgm) : Prop := ∀ s ∈ p, s.grade = (p.getD 0 Sgm.z).grade
theorem steep_level {p : List Sgm} {f t : Int} (hv : validB p = true) (hl : LevelP p) (ht : ∃ s ∈ p, touchB f t s = true) : steepV p f t = (p.getD 0 Sgm.z).grade := by
  obtain ⟨s, hs, hb⟩ := ht
  unfold steepV touL
  rw [if_pos hv]
  have hn : (p.filter (touchB f t)).map Sgm.grade ≠ [] := by
    intro h0
    have : s ∈ p.filter (touchB f t) := List.mem_filter.2 ⟨hs, hb⟩
    rw [List.map_eq_nil_iff.1 h0] at this
    cases this
  obtain ⟨u, hu, he⟩ := List.mem_map.1 (leastL_mem _ hn)
  rw [← he]
  exact hl u (List.mem_filter.1 hu).1
theorem perm_end {T : Tr} {p : List Sgm} {e : Es} {a b : Int} (hab : b ≤ a) (hd : decV T p e b = decV T p e a) : permV T p e b ≤ permV T p e a := by
  unfold permV
  split
  · rw [hd]
    have hs : stopV T (decV T p e a) e b ≤ stopV T (decV T p e a) e a := by
      have := spdV_mono (dec := decV T p e a) (delay := T.delay) (show b - e.max ≤ a - e.max by omega)
      unfold stopV; omega
    obtain ⟨k1, k2⟩ := minL_le (ahdL (decV T p e a) T.delay e.max p) (min (ceilV T p e) (stopV T (decV T p e a) e b))
    refine minL_ge _ _ _ (by omega) k2
  · omega
/-- A nearer end: the same conditions, stricter. -/
theorem near_ahead {T : Tr} {p : List Sgm} {e : Es} {a b moved u : Int} (hab : b ≤ a) (hm : e.min ≤ e.max) (hl : LevelP p) (hr : reachB p e b = true) (hlast : a ≤ lastT p) (hmv : 0 ≤ moved)
    (h : e.max + moved + dstV u (weakV T p e.min b) T.delay ≤ b) : reachB p e a = true ∧ e.max + moved + dstV u (weakV T p e.min a) T.delay ≤ a ∧ decV T p e b = decV T p e a := by
  rw [reachB_true] at hr
  obtain ⟨r1, r2, r3, r4⟩ := hr
  have hp := (dstV_bd u (weakV T p e.min b) T.delay).1
  have hmin : e.min ≤ b := by omega
  have e1 := steep_level r1 hl (touch_first r1 r2 r3 (show e.min ≤ lastT p by omega) hmin)
  have e2 := steep_level r1 hl (touch_first r1 r2 r3 (show e.min ≤ lastT p by omega) (show e.min ≤ a by omega))
  have ew : weakV T p e.min b = weakV T p e.min a := by unfold weakV; rw [e1, e2]
  rw [ew] at h
  refine ⟨reachB_true.2 ⟨r1, r2, r3, hlast⟩, by omega, ?_⟩
  unfold decV; rw [e1, e2]
theorem near_decides {T : Tr} {p : List Sgm} {e : Es} {a b : Int} (old : Int) (hab : b ≤ a) (hm : e.min ≤ e.max) (hl : LevelP p) (hlast : a ≤ lastT p) (hs : 0 ≤ e.speed) (hac : 0 ≤ T.accel) : decdV T p e a old ≤ decdV T p e b old := by
  by_cases h2 : decdV T p e b old = 2
  · have := decd_bd T p e a old; omega
  · obtain ⟨k1, k2⟩ := decd_not h2
    obtain ⟨g1, g2⟩ := aheadB_true.1 k1
    obtain ⟨n1, n2, n3⟩ := near_ahead (T := T) hab hm hl g1 hlast (by omega) g2
    have ha : aheadB T p e a = true := aheadB_true.2 ⟨n1, n2⟩
    have hp := perm_end hab n3
    have ea : decdV T p e a old = if permV T p e a < e.speed then 1 else 0 := by
      unfold decdV
      refine if_neg ?_
      rintro (h | h)
      · rw [ha] at h; cases h
      · exact k2 h
    have eb : decdV T p e b old = if permV T p e b < e.speed then 1 else 0 := by
      unfold decdV
      refine if_neg ?_
      rintro (h | h)
      · rw [k1] at h; cases h
      · exact k2 h
    rw [ea, eb]
    split <;> split <;> omega
theorem near_safe {T : Tr} {p : List Sgm} {e : Es} {a b : Int} (hab : b ≤ a) (hm : e.min ≤ e.max) (hl : LevelP p) (hlast : a ≤ lastT p) (h : safeB T p e b = true) : safeB T p e a = true := by
  obtain ⟨g1, g2⟩ := safeB_true.1 h
  obtain ⟨n1, n2, _⟩ := near_ahead (T := T) (moved := 0) (u := e.speed) hab hm hl g1 hlast (by omega) (by omega)
  exact safeB_true.2 ⟨n1, by omega⟩
/-- The profile ends ahead of the end: the emergency brake. -/
theorem short_decides {T : Tr} {p : List Sgm} {e : Es} {en old : Int} (h : p.length = 0 ∨ lastT p < en) : decdV T p e en old = 2 := by
  refine decd_two ?_
  cases hb : aheadB T p e en
  · rfl
  · obtain ⟨g, _⟩ := aheadB_true.1 hb
    rw [reachB_true] at g; omega

/-! ### A supervised train never passes the end -/
theorem steep_le {p : List Sgm} {f t : Int} {s : Sgm} (hv : validB p = true) (hs : s ∈ p) (h : touchB f t s = true) : steepV p f t ≤ s.grade := by
  unfold steepV touL
  rw [if_pos hv]
  exact leastL_le _ _ (List.mem_map.2 ⟨s, List.mem_filter.2 ⟨hs, h⟩, rfl⟩)
theorem steep_at {p : List Sgm} {f t x : Int} (hv : validB p = true) (h0 : 0 < p.length) (hf : headF p ≤ f) (hx : f ≤ x) (hxt : x ≤ t) (ht : t ≤ lastT p) : steepV p f t ≤ steepV p x x := by
  obtain ⟨s, hs, hb⟩ := touch_first (f := x) (t := x) hv h0 (by omega) (by omega) (Int.le_refl _)
  have hn : (p.filter (touchB x x)).map Sgm.grade ≠ [] := by
    intro h0
    have : s ∈ p.filter (touchB x x) := List.mem_filter.2 ⟨hs, hb⟩
    rw [List.map_eq_nil_iff.1 h0] at this
    cases this
  obtain ⟨u, hu, he⟩ := List.mem_map.1 (leastL_mem _ hn)
  have e : steepV p x x = u.grade := by unfold steepV touL; rw [if_pos hv]; exact he.symm
  obtain ⟨hu1, hu2⟩ := List.mem_filter.1 hu
  rw [touchB_iff] at hu2
  rw [e]
  exact steep_le hv hu1 (touchB_iff.2 ⟨by omega, by omega⟩)
theorem effV_mono {dec g h : Int} (k : g ≤ h) : effV dec g ≤ effV dec h := by unfold effV clampV; omega
/-- What holds between two cycles: the deceleration D holds from here to the end, and the way that is needed fits; b: the cycles for which the emergency brake has been applied. -/
structure SupOk (T : Tr) (p : List Sgm) (en x v b D : Int) : Prop where
  x0 : 0 ≤ x
  v0 : 0 ≤ v
  v1 : v ≤ 10000
  b0 : 0 ≤ b
  hold : ∀ y, x ≤ y → y ≤ en → D ≤ effV T.emergency (steepV p y y)
  fits : x + dstV v D (max 0 (T.delay - b)) ≤ en
theorem SupOk.le {T : Tr} {p : List Sgm} {en x v b D : Int} (h : SupOk T p en x v b D) : x ≤ en := by
  have := (dstV_bd v D (max 0 (T.delay - b))).1; have := h.fits; omega
/-- How a situation in which the train can stop gives such a deceleration. -/
theorem sup_of {T : Tr} {p : List Sgm} {e : Es} {en x v w far : Int} (hr : reachB p e en = true) (hx : e.min ≤ x) (h0 : 0 ≤ x) (hv0 : 0 ≤ v) (hv1 : v ≤ 10000) (hvw : v ≤ w) (hxf : x ≤ far) (hd : 0 ≤ T.delay) (h : far + dstV w (weakV T p e.min en) T.delay ≤ en) : SupOk T p en x v 0 (weakV T p e.min en) := by
  obtain ⟨r1, r2, r3, r4⟩ := reachB_true.1 hr
  refine ⟨h0, hv0, hv1, by omega, fun y hy hye => effV_mono (steep_at r1 r2 r3 (by omega) hye r4), ?_⟩
  have := dstV_mono (dec := weakV T p e.min en) (delay := T.delay) hvw
  rw [show max 0 (T.delay - 0) = T.delay by omega]
  omega
/-- A cycle with the emergency brake. -/
theorem sup_brake {T : Tr} {p : List Sgm} {en x v b D more : Int} (h : SupOk T p en x v b D) (hd0 : 0 ≤ T.delay) (hd : T.delay ≤ 5) (hen : en ≤ 268435456) (hm : 0 ≤ more) :
    let v' := if T.delay < b + 1 then max 0 (v - effV T.emergency (steepV p x x) - more) else v
    SupOk T p en (x + v') v' (b + 1) D ∧ 0 ≤ v' ∧ v' ≤ v := by
  have hle := h.le
  obtain ⟨x0, v0, v1, b0, hold, fits⟩ := h
  have hD := hold x (Int.le_refl _) hle
  by_cases hv : v ≤ 0
  · have hv : v = 0 := by omega
    subst hv
    have he := (effV_bd T.emergency (steepV p x x)).1
    have hv' : (if T.delay < b + 1 then max 0 (0 - effV T.emergency (steepV p x x) - more) else (0 : Int)) = 0 := by split <;> omega
    intro v'
    have hv'' : v' = 0 := hv'
    rw [hv'']
    refine ⟨⟨by omega, by omega, by omega, by omega, fun y hy => hold y (by omega), ?_⟩, by omega, by omega⟩
    have : dstV 0 D (max 0 (T.delay - (b + 1))) = 0 := by unfold dstV; rw [if_pos (by omega)]
    omega
  · have hd1 : 1 ≤ D := by
      rcases Int.lt_or_le D 1 with h1 | h1
      · have : dstV v D (max 0 (T.delay - b)) = 1073741824 := by unfold dstV; rw [if_neg hv, if_pos h1]
        omega
      · exact h1
    have one := dst_one (v := v) (dec := D) (by omega) (by omega) hd1
    intro v'
    by_cases c : T.delay < b + 1
    · have hv' : v' = max 0 (v - effV T.emergency (steepV p x x) - more) := if_pos c
      have hle' : v' ≤ max 0 (v - D) := by omega
      have m := dstV_mono (dec := D) (delay := 0) hle'
      rw [show max 0 (T.delay - b) = 0 by omega] at fits
      refine ⟨⟨by omega, by omega, by omega, by omega, fun y hy => hold y (by omega), ?_⟩, by omega, by omega⟩
      rw [show max 0 (T.delay - (b + 1)) = 0 by omega]
      omega
    · have hv' : v' = v := if_neg c
      rw [hv']
      have w1 := dst_wait (v := v) (dec := D) (max 0 (T.delay - b)) (by omega) hd1
      have w2 := dst_wait (v := v) (dec := D) (max 0 (T.delay - (b + 1))) (by omega) hd1
      have s1 : stV v = v := by unfold stV; omega
      have t1 : wtV (max 0 (T.delay - b)) = T.delay - b := by unfold wtV clampV; omega
      have t2 : wtV (max 0 (T.delay - (b + 1))) = T.delay - b - 1 := by unfold wtV clampV; omega
      rw [s1, t1] at w1
      rw [s1, t2] at w2
      have : (T.delay - b) * v = (T.delay - b - 1) * v + v := by
        rw [show T.delay - b = (T.delay - b - 1) + 1 by omega, Int.add_mul, Int.one_mul]; congr 2; omega
      refine ⟨⟨by omega, by omega, by omega, by omega, fun y hy => hold y (by omega), by omega⟩, by omega, by omega⟩
/-- A cycle without it. -/
theorem sup_free {T : Tr} {p : List Sgm} {e : Es} {en x v push v' : Int} (hh : aheadB T p e en = true) (h1 : e.min ≤ x) (h2 : x ≤ e.max) (h3 : v ≤ e.speed) (x0 : 0 ≤ x) (v0 : 0 ≤ v) (ha : 0 ≤ T.accel) (hd : 0 ≤ T.delay)
    (hv' : v' = max 0 (min (v + min push T.accel) 10000)) : SupOk T p en (x + v') v' 0 (weakV T p e.min en) := by
  obtain ⟨r, k⟩ := aheadB_true.1 hh
  exact sup_of (w := e.speed + T.accel) (far := e.max + (e.speed + T.accel)) r (by omega) (by omega) (by omega) (by omega) (by omega) (by omega) hd k
end Sg
