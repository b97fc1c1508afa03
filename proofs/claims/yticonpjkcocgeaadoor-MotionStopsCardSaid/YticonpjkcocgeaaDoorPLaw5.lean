/- Plain laws of units that move: the new speed is bounded; the emergency brake stops. No program in sight. Printed by gen_plaw5.py. -/
import Derived.Test.YticonpjkcocgeaaDoorPAll
set_option linter.unusedVariables false
set_option linter.unusedSimpArgs false
namespace Sg

theorem dst_one {v dec : Int} (hv : 0 < v) (hv2 : v ≤ 20000) (hd : 1 ≤ dec) : dstV v dec 0 = max 0 (v - dec) + dstV (max 0 (v - dec)) dec 0 := by
  have e1 : stV v = v := by unfold stV; omega
  have w0 : wtV 0 = 0 := by decide
  rw [dstV_pos hv hd, e1, w0]
  by_cases c : v ≤ dec
  · have e2 : max 0 (v - dec) = 0 := by omega
    have e3 : nV v dec = 0 := by
      unfold nV; rw [e1]; exact Int.ediv_eq_zero_of_lt (by omega) (by omega)
    rw [e2, e3]
    have : triV 0 = 0 := by decide
    have : dstV 0 dec 0 = 0 := by unfold dstV; rw [if_pos (by omega)]
    simp [*]
  · have e2 : max 0 (v - dec) = v - dec := by omega
    have e4 : stV (v - dec) = v - dec := by unfold stV; omega
    have e3 : nV v dec = nV (v - dec) dec + 1 := by
      unfold nV; rw [e1, e4]
      have : v - 1 = (v - dec - 1) + 1 * dec := by omega
      rw [this, Int.add_mul_ediv_right _ _ (by omega)]
    rw [e2, dstV_pos (by omega) hd, e4, w0, e3]
    have t := triV_succ (nV (v - dec) dec)
    rw [t]
    generalize nV (v - dec) dec = n
    generalize triV n = T
    grind
theorem dst_wait {v dec : Int} (delay : Int) (hv : 0 < v) (hd : 1 ≤ dec) : dstV v dec delay = wtV delay * stV v + dstV v dec 0 := by
  have w0 : wtV 0 = 0 := by decide
  rw [dstV_pos hv hd, dstV_pos hv hd, w0]
  omega

/-- One cycle more or less of waiting. -/
theorem tim_one {v dec : Int} (hv : 0 < v) (hv2 : v ≤ 20000) (hd : 1 ≤ dec) : timV v dec 0 = 1 + timV (max 0 (v - dec)) dec 0 := by
  have e1 : stV v = v := by unfold stV; omega
  have w0 : wtV 0 = 0 := by decide
  rw [timV_pos hv hd, w0]
  by_cases c : v ≤ dec
  · have e2 : max 0 (v - dec) = 0 := by omega
    have e3 : nV v dec = 0 := by
      unfold nV; rw [e1]; exact Int.ediv_eq_zero_of_lt (by omega) (by omega)
    rw [e2, e3]
    have : timV 0 dec 0 = 0 := by unfold timV; rw [if_pos (by omega)]
    omega
  · have e2 : max 0 (v - dec) = v - dec := by omega
    have e4 : stV (v - dec) = v - dec := by unfold stV; omega
    have e3 : nV v dec = nV (v - dec) dec + 1 := by
      unfold nV; rw [e1, e4]
      have : v - 1 = (v - dec - 1) + 1 * dec := by omega
      rw [this, Int.add_mul_ediv_right _ _ (by omega)]
    rw [e2, timV_pos (by omega) hd, w0, e3]
    omega
theorem effV_mono {dec g h : Int} (hg : g ≤ h) : effV dec g ≤ effV dec h := by
  unfold effV
  have h1 : clampV g (-1000) 1000 ≤ clampV h (-1000) 1000 := by unfold clampV; omega
  have h2 : (981 * clampV g (-1000) 1000) / 1000 ≤ (981 * clampV h (-1000) 1000) / 1000 := Int.ediv_le_ediv (by omega) (by omega)
  omega
theorem dst_small {v dec delay : Int} (hv : 0 ≤ v ∧ v ≤ 10000) (hd : 20 ≤ dec) (hdl : 0 ≤ delay ∧ delay ≤ 5) : 0 ≤ dstV v dec delay ∧ dstV v dec delay ≤ 400200000 := by
  by_cases h : v ≤ 0
  · unfold dstV; rw [if_pos h]; omega
  · have h1 := dst_wait (v := v) (dec := dec) delay (by omega) (by omega)
    have h2 := wt_part (v := v) delay (by omega)
    have h3 := dst_part (v := v) (dec := dec) (by omega) (by omega)
    rw [dstV_pos (by omega) (by omega)]
    omega
/-- A cycle under the emergency brake: v the speed, r the cycles still to wait; k what was moved, v' the new speed (0 if the track ended). -/
theorem brk_step {v v' k D e b delay : Int} (hv : 0 ≤ v ∧ v ≤ 10000) (hb : 0 ≤ b ∧ b ≤ 1073741824) (hdl : 0 ≤ delay ∧ delay ≤ 5) (hD : 20 ≤ D) (he : D ≤ e) {w : Int}
    (hw : w = if delay < min (b + 1) 1073741824 then max 0 (v - e) else v) (hk : 0 ≤ k ∧ k ≤ w) (hv' : v' = w ∨ v' = 0) :
    k + dstV v' D (max 0 (delay - min (b + 1) 1073741824)) ≤ dstV v D (max 0 (delay - b)) ∧ timV v' D (max 0 (delay - min (b + 1) 1073741824)) ≤ max 0 (timV v D (max 0 (delay - b)) - 1) ∧ 0 ≤ v' ∧ v' ≤ 10000 := by
  have hww : 0 ≤ w ∧ w ≤ v := by rw [hw]; split <;> omega
  have hvw : 0 ≤ v' ∧ v' ≤ w := by omega
  have z1 : ∀ r, dstV 0 D r = 0 := fun r => by unfold dstV; rw [if_pos (by omega)]
  have z2 : ∀ r, timV 0 D r = 0 := fun r => by unfold timV; rw [if_pos (by omega)]
  by_cases h0 : v ≤ 0
  · have e1 : v = 0 := by omega
    have e2 : v' = 0 := by omega
    have e3 : k = 0 := by omega
    subst e1 e2 e3
    rw [z1, z1, z2, z2]
    omega
  · by_cases c : delay < min (b + 1) 1073741824
    · rw [if_pos c] at hw
      have r0 : max 0 (delay - min (b + 1) 1073741824) = 0 := by omega
      have r1 : max 0 (delay - b) = 0 := by omega
      rw [r0, r1, dst_one (v := v) (by omega) (by omega) (by omega), tim_one (v := v) (by omega) (by omega) (by omega)]
      have hle : w ≤ max 0 (v - D) := by omega
      have m := dstV_mono (v := v') (w := max 0 (v - D)) (dec := D) (delay := 0) (by omega)
      have t := timV_mono (v := v') (w := max 0 (v - D)) (dec := D) (delay := 0) (by omega) (by omega)
      omega
    · rw [if_neg c] at hw
      subst hw
      have hm : min (b + 1) 1073741824 = b + 1 := by omega
      rw [hm]
      have r0 : max 0 (delay - (b + 1)) = delay - b - 1 := by omega
      have r1 : max 0 (delay - b) = delay - b := by omega
      rw [r0, r1]
      have s1 : stV w = w := by unfold stV; omega
      have t1 : wtV (delay - b) = delay - b := by unfold wtV clampV; omega
      have t2 : wtV (delay - b - 1) = delay - b - 1 := by unfold wtV clampV; omega
      have w1 := dst_wait (v := w) (dec := D) (delay - b) (by omega) (by omega)
      rw [s1, t1] at w1
      have hmul : (delay - b) * w = (delay - b - 1) * w + w := by
        rw [show delay - b = (delay - b - 1) + 1 by omega, Int.add_mul, Int.one_mul]; congr 2; omega
      have p1 := timV_pos (v := w) (dec := D) (delay := delay - b) (by omega) (by omega)
      rw [t1] at p1
      have n0 := nV_bd (v := w) (dec := D) (by omega) (by omega)
      rcases hv' with rfl | rfl
      · have w2 := dst_wait (v := v') (dec := D) (delay - b - 1) (by omega) (by omega)
        rw [s1, t2] at w2
        have p2 := timV_pos (v := v') (dec := D) (delay := delay - b - 1) (by omega) (by omega)
        rw [t2] at p2
        omega
      · rw [z1, z2]
        have d0 := (dstV_bd w D 0).1
        have : 0 ≤ (delay - b - 1) * w := Int.mul_nonneg (by omega) (by omega)
        omega
theorem timV_lo {v dec delay : Int} (hd : 1 ≤ dec) (h : timV v dec delay ≤ 0) : v ≤ 0 := by
  rcases Int.lt_or_le 0 v with h0 | h0
  · have := timV_pos (delay := delay) h0 hd
    have := wtV_bd delay
    have := nV_bd h0 hd
    omega
  · exact h0
theorem timV_longer {v dec delay longer : Int} (hd : 1 ≤ dec) (h : delay ≤ longer) : timV v dec delay ≤ timV v dec longer := by
  rcases Int.lt_or_le 0 v with h0 | h0
  · rw [timV_pos h0 hd, timV_pos h0 hd]
    have := wtV_mono h
    omega
  · unfold timV; rw [if_pos h0, if_pos h0]; omega
theorem tim_small {v dec delay : Int} (hv : v ≤ 10000) (hd : 20 ≤ dec) (hdl : 0 ≤ delay ∧ delay ≤ 5) : timV v dec delay ≤ 520 := by
  rcases Int.lt_or_le 0 v with h0 | h0
  · rw [timV_pos h0 (by omega)]
    have h1 : wtV delay ≤ 5 := by unfold wtV clampV; omega
    have h2 : nV v dec ≤ 500 := by
      have e : stV v ≤ 10000 := by unfold stV; omega
      have := (nV_mul (v := v) (dec := dec) (by omega)).1
      have n0 := nV_bd h0 (show 1 ≤ dec by omega)
      have : nV v dec * 20 ≤ nV v dec * dec := Int.mul_le_mul_of_nonneg_left hd n0.1
      omega
    omega
  · unfold timV; rw [if_pos h0]; omega
/-- The greatest absolute gradient of the first elements. -/
def steepL : List Elm → Int
  | [] => 0
  | x :: r => max (steepL r) (max x.grade (-x.grade))
theorem steepL_ge : ∀ {els : List Elm} {k : Nat} {x : Elm}, els[k]? = some x → x.grade ≤ steepL els ∧ -x.grade ≤ steepL els
  | [], k, x, h => by simp at h
  | y :: r, 0, x, h => by simp at h; subst h; unfold steepL; omega
  | y :: r, k + 1, x, h => by
    have := steepL_ge (els := r) (k := k) (x := x) (by simpa using h)
    unfold steepL; omega
theorem steepL_bd : ∀ {els : List Elm}, (∀ (k : Nat) x, els[k]? = some x → -50 ≤ x.grade ∧ x.grade ≤ 50) → 0 ≤ steepL els ∧ steepL els ≤ 50
  | [], _ => by simp [steepL]
  | y :: r, h => by
    have h1 := steepL_bd (els := r) (fun k x hx => h (k + 1) x (by simpa using hx))
    have h2 := h 0 y (by simp)
    unfold steepL; omega
theorem steepL_snoc : ∀ (l : List Elm) (x : Elm), steepL (l ++ [x]) = max (max (steepL l) x.grade) (-x.grade)
  | [], x => by simp [steepL]
  | y :: r, x => by
    show max (steepL (r ++ [x])) (max y.grade (-y.grade)) = max (max (max (steepL r) (max y.grade (-y.grade))) x.grade) (-x.grade)
    rw [steepL_snoc r x]; omega
section
variable {els : List Elm} {jts : List Jnt} {pos : List Int} {T : Tr}
/-- The gradient under the head is one of the layout's. -/
theorem gradV_bd {l : List Stp} {head len : Int} (h : chkM els jts l head len = 0) : -(steepL els) ≤ gradV els jts l head len := by
  have hw := (chkM_zero.1 h).1.1
  have hs := (hw.step (lastS_at hw.1)).1
  obtain ⟨h1, h2⟩ := hs
  have hx : els[(lastS l).el.toNat]? = some (elAt els (lastS l).el) := by
    unfold elAt
    rw [List.getD_eq_getElem?_getD, List.getElem?_eq_getElem (by omega)]; rfl
  have := steepL_ge hx
  unfold gradV
  rw [if_pos h]
  split <;> omega
/-- What a cycle does to a good unit. -/
structure CycR (els : List Elm) (jts : List Jnt) (T : Tr) (br : Int) (l : List Stp) (head len speed x braking want : Int) (R : Stv) : Prop where
  chk : chkM els jts R.steps R.head len = 0
  n0 : 0 ≤ R.n
  nv : R.n ≤ newV T speed (gradV els jts l head len) br braking want
  x : R.x = x + R.n
  b : R.braking = newB br braking
  v : R.speed = newV T speed (gradV els jts l head len) br braking want ∨ R.speed = 0
  fin : R.ended = true → R.speed = 0
  go : R.ended = false → R.n = R.speed ∧ R.speed = newV T speed (gradV els jts l head len) br braking want
theorem cyc_ok {br : Int} {l : List Stp} {head len speed x braking want : Int} (hE : ∀ el, hasEl els el → 500 ≤ (elAt els el).len) (hJ : ∀ e f, joinO jts e = some f → hasEl els f.el) (h32 : els.length ≤ 32) (hg : GoodU els jts T l head len speed x braking) :
    CycR els jts T br l head len speed x braking want (stepV els jts pos T br l head len speed x braking want) := by
  have hb := newV_bd (chkE_ok hg.tr) (g := gradV els jts l head len) (br := br) (braking := braking) (want := want) hg.speed
  obtain ⟨v, hv⟩ : ∃ v, v = newV T speed (gradV els jts l head len) br braking want := ⟨_, rfl⟩
  have hmv := movV_ok (pos := pos) (d := v) hE hJ h32 hg.body
  have e1 : moveV els jts pos len l head v = movV els jts pos len l head v := by unfold moveV; rw [if_pos hg.body]
  have e2 : stepV els jts pos T br l head len speed x braking want = ⟨(movV els jts pos len l head v).steps, (movV els jts pos len l head v).head, if (movV els jts pos len l head v).ended = true then 0 else v, x + (movV els jts pos len l head v).moved, newB br braking, (movV els jts pos len l head v).moved, (movV els jts pos len l head v).ended⟩ := by
    unfold stepV; rw [if_pos (goodB_true.2 hg), ← hv, e1]
  rw [e2]
  rw [← hv] at hb
  have hd : max 0 (min v 1000000) = v := by omega
  rw [hd] at hmv
  generalize movV els jts pos len l head v = M at hmv ⊢
  obtain ⟨m, hc⟩ := hmv
  have m1 := m.m1
  have m2 := m.m2
  refine ⟨hc, m1, by rw [← hv]; show M.moved ≤ v; omega, rfl, rfl, ?_, ?_, ?_⟩
  · show (if M.ended = true then 0 else v) = _ ∨ (if M.ended = true then 0 else v) = 0
    rw [← hv]
    cases M.ended
    · exact .inl rfl
    · exact .inr rfl
  · intro h
    show (if M.ended = true then 0 else v) = 0
    rw [if_pos h]
  · intro h
    replace h : M.ended = false := h
    have h3 := m.done h
    have e : (if M.ended = true then 0 else v) = v := by rw [h]; rfl
    show M.moved = (if M.ended = true then 0 else v) ∧ (if M.ended = true then 0 else v) = _
    rw [e, ← hv]
    exact ⟨by omega, rfl⟩
/-- What holds after some cycles under the emergency brake: t cycles are left, s was moved, most at most. -/
structure BrkI (els : List Elm) (jts : List Jnt) (T : Tr) (D X0 most : Int) (t : Int) (l : List Stp) (head len speed x braking s : Int) : Prop where
  good : GoodU els jts T l head len speed x braking
  s0 : 0 ≤ s
  dst : s + dstV speed D (max 0 (T.delay - braking)) ≤ most
  tim : timV speed D (max 0 (T.delay - braking)) ≤ t
  x : x ≤ X0 + s
theorem BrkI.start {D X0 : Int} {l : List Stp} {head len speed braking : Int} (hD : 20 ≤ D) (hg : GoodU els jts T l head len speed X0 braking) :
    BrkI els jts T D X0 (dstV speed D T.delay) (timV speed D T.delay) l head len speed X0 braking 0 := by
  have hd := (chkE_ok hg.tr).delay
  have hb := hg.braking
  refine ⟨hg, Int.le_refl _, ?_, timV_longer (by omega) (by omega), by omega⟩
  have := dstV_longer (v := speed) (dec := D) (delay := max 0 (T.delay - braking)) (longer := T.delay) (by omega)
  omega
theorem BrkI.next {D X0 most t : Int} {l : List Stp} {head len speed x braking want s : Int} (hE : ∀ el, hasEl els el → 500 ≤ (elAt els el).len) (hJ : ∀ e f, joinO jts e = some f → hasEl els f.el) (h32 : els.length ≤ 32)
    (hD : 20 ≤ D) (hD2 : D ≤ effV T.emergency (-(steepL els))) (hX : X0 ≤ 536870912) (hm : most ≤ 500000000) (h : BrkI els jts T D X0 most t l head len speed x braking s) {R : Stv} (hR : R = stepV els jts pos T 2 l head len speed x braking want) :
    BrkI els jts T D X0 most (max 0 (t - 1)) R.steps R.head len R.speed R.x R.braking (s + R.n) ∧ 0 ≤ R.n ∧ R.n ≤ 10000 := by
  have c := cyc_ok (pos := pos) (br := 2) (want := want) hE hJ h32 h.good
  rw [← hR] at c
  have hT := chkE_ok h.good.tr
  have hdl := hT.delay
  have hb := newV_bd hT (g := gradV els jts l head len) (br := 2) (braking := braking) (want := want) h.good.speed
  have hg := gradV_bd h.good.body
  have he := effV_mono (dec := T.emergency) hg
  have hbr : newB 2 braking = min (braking + 1) 1073741824 := by unfold newB; rw [if_neg (by omega)]
  have hw : newV T speed (gradV els jts l head len) 2 braking want = if T.delay < min (braking + 1) 1073741824 then max 0 (speed - effV T.emergency (gradV els jts l head len)) else speed := by
    unfold newV; rw [if_neg (by omega), if_neg (by omega), hbr]
  have hgb := h.good.braking
  have st := brk_step (v := speed) (v' := R.speed) (k := R.n) (D := D) (e := effV T.emergency (gradV els jts l head len)) (b := braking) (delay := T.delay) h.good.speed hgb hdl hD (by omega) hw ⟨c.n0, c.nv⟩ c.v
  have hb2 := c.b
  rw [hbr] at hb2
  rw [← hb2] at st
  have hn0 := c.n0
  have hx := c.x
  have h1 := h.dst
  have h2 := h.tim
  have h3 := h.x
  have h4 := h.s0
  have hgx := h.good.x
  have d0 := (dstV_bd R.speed D (max 0 (T.delay - R.braking))).1
  refine ⟨⟨⟨c.chk, h.good.tr, st.2.2, ⟨by omega, by omega⟩, ⟨by omega, by omega⟩⟩, by omega, by omega, by omega, by omega⟩, hn0, by have := c.nv; omega⟩
end
end Sg
