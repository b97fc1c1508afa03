/- Plain mathematics of permitted speeds. No program in sight. -/
import Derived.Test.YthkknagicdanfaaPJoin
import Derived.Test.YthkknagicdanfaaPBrake
import Derived.Test.YthkknagicdanfaaPTrain
set_option linter.unusedVariables false
set_option linter.unusedSimpArgs false
namespace Sg

def roomV (d t dec : Int) : Int := min d 1073741824 + dstV t dec 0
def noTow (d t dec delay : Int) : Prop := d < 0 ∨ dec < 1 ∨ 10000 < max t 0 ∨ roomV d t dec < dstV (max t 0) dec delay
def IsTow (d t dec delay r : Int) : Prop := (noTow d t dec delay → r = t) ∧ (¬ noTow d t dec delay → max t 0 ≤ r ∧ r ≤ 10000 ∧ dstV r dec delay ≤ roomV d t dec ∧ (r = 10000 ∨ roomV d t dec < dstV (r + 1) dec delay))
theorem roomV_bd (d t dec : Int) (hd : 0 ≤ d) : 0 ≤ roomV d t dec ∧ roomV d t dec ≤ 2147483648 := by
  have := dstV_bd t dec 0; unfold roomV; omega
theorem IsTow.eq {d t dec delay r s : Int} (h : IsTow d t dec delay r) (g : IsTow d t dec delay s) : r = s := by
  by_cases c : noTow d t dec delay
  · rw [h.1 c, g.1 c]
  · obtain ⟨h1, h2, h3, h4⟩ := h.2 c
    obtain ⟨g1, g2, g3, g4⟩ := g.2 c
    rcases Int.lt_trichotomy r s with k | k | k
    · have := dstV_mono (dec := dec) (delay := delay) (show r + 1 ≤ s by omega); omega
    · exact k
    · have := dstV_mono (dec := dec) (delay := delay) (show s + 1 ≤ r by omega); omega
theorem tow_step {dec delay room lo : Int} (h0 : 0 ≤ lo) (h1 : dstV lo dec delay ≤ room) : ∀ n : Nat, lo + n ≤ 10000 → ∃ r : Int, lo ≤ r ∧ r ≤ lo + n ∧ dstV r dec delay ≤ room ∧ (r = lo + n ∨ room < dstV (r + 1) dec delay)
  | 0, _ => ⟨lo, by omega, by omega, h1, .inl (by omega)⟩
  | n + 1, h => by
    obtain ⟨r, r1, r2, r3, r4⟩ := tow_step h0 h1 n (by omega)
    rcases r4 with r4 | r4
    · by_cases c : dstV (r + 1) dec delay ≤ room
      · exact ⟨r + 1, by omega, by omega, c, .inl (by omega)⟩
      · exact ⟨r, r1, by omega, r3, .inr (by omega)⟩
    · exact ⟨r, r1, by omega, r3, .inr r4⟩
theorem tow_ex (d t dec delay : Int) : ∃ r, IsTow d t dec delay r := by
  by_cases c : noTow d t dec delay
  · exact ⟨t, fun _ => rfl, fun h => absurd c h⟩
  · have c' := c
    unfold noTow at c
    obtain ⟨n, hn⟩ : ∃ n : Nat, max t 0 + n = 10000 := ⟨(10000 - max t 0).toNat, by omega⟩
    obtain ⟨r, r1, r2, r3, r4⟩ := tow_step (dec := dec) (delay := delay) (room := roomV d t dec) (show 0 ≤ max t 0 by omega) (by omega) n (by omega)
    exact ⟨r, fun h => absurd h c', fun _ => ⟨r1, by omega, r3, by rcases r4 with r4 | r4; exact .inl (by omega); exact .inr r4⟩⟩
noncomputable def towV (d t dec delay : Int) : Int := (tow_ex d t dec delay).choose
theorem towV_is (d t dec delay : Int) : IsTow d t dec delay (towV d t dec delay) := (tow_ex d t dec delay).choose_spec
theorem IsTow.tow {d t dec delay r : Int} (h : IsTow d t dec delay r) : r = towV d t dec delay := h.eq (towV_is d t dec delay)
theorem towV_ge (d t dec delay : Int) : t ≤ towV d t dec delay := by
  by_cases c : noTow d t dec delay
  · rw [(towV_is d t dec delay).1 c]; exact Int.le_refl _
  · have := ((towV_is d t dec delay).2 c).1; omega
theorem towV_le (d t dec delay : Int) : towV d t dec delay ≤ max t 10000 := by
  by_cases c : noTow d t dec delay
  · rw [(towV_is d t dec delay).1 c]; omega
  · have := ((towV_is d t dec delay).2 c).2.1; omega
theorem towV_mono {d e t u dec delay : Int} (hd : 0 ≤ d) (hde : d ≤ e) (ht : 0 ≤ t) (htu : t ≤ u) (hu : u ≤ 10000) : towV d t dec delay ≤ towV e u dec delay := by
  have hr : roomV d t dec ≤ roomV e u dec := by have := dstV_mono (dec := dec) (delay := 0) htu; unfold roomV; omega
  by_cases c : noTow d t dec delay
  · rw [(towV_is d t dec delay).1 c]; have := towV_ge e u dec delay; omega
  · obtain ⟨h1, h2, h3, h4⟩ := (towV_is d t dec delay).2 c
    by_cases c2 : noTow e u dec delay
    · rw [(towV_is e u dec delay).1 c2]
      unfold noTow at c c2
      refine Classical.byContradiction fun hlt => ?_
      have m := dstV_mono (dec := dec) (delay := delay) (show max u 0 ≤ towV d t dec delay by omega)
      omega
    · obtain ⟨g1, g2, g3, g4⟩ := (towV_is e u dec delay).2 c2
      refine Classical.byContradiction fun hlt => ?_
      have m := dstV_mono (dec := dec) (delay := delay) (show towV e u dec delay + 1 ≤ towV d t dec delay by omega)
      omega
theorem spdV_mono {d e dec delay : Int} (h : d ≤ e) : spdV d dec delay ≤ spdV e dec delay := by
  have h1 := spdV_is d dec delay
  have h2 := spdV_is e dec delay
  have b1 := spdV_bd d dec delay
  have b2 := spdV_bd e dec delay
  by_cases c : d < 0
  · have := h1.1 c; omega
  · obtain ⟨g1, g2, g3, g4⟩ := h1.2 (by omega)
    obtain ⟨k1, k2, k3, k4⟩ := h2.2 (by omega)
    refine Classical.byContradiction fun hlt => ?_
    have m := dstV_mono (dec := dec) (delay := delay) (show spdV e dec delay + 1 ≤ spdV d dec delay by omega)
    omega
/-- The least of a number and a list. -/
def minL (a : Int) (l : List Int) : Int := l.foldl min a
theorem minL_snoc (a : Int) (l : List Int) (v : Int) : minL a (l ++ [v]) = min (minL a l) v := by simp [minL]
theorem minL_cons (a v : Int) (l : List Int) : minL a (v :: l) = minL (min a v) l := rfl
theorem minL_le : ∀ (l : List Int) (a : Int), minL a l ≤ a ∧ ∀ v ∈ l, minL a l ≤ v
  | [], a => ⟨Int.le_refl _, fun v h => by cases h⟩
  | u :: l, a => by
    obtain ⟨h1, h2⟩ := minL_le l (min a u)
    rw [minL_cons]
    refine ⟨by omega, fun v hv => ?_⟩
    rcases List.mem_cons.1 hv with rfl | hv
    · omega
    · exact h2 v hv
theorem minL_ge : ∀ (l : List Int) (a c : Int), c ≤ a → (∀ v ∈ l, c ≤ v) → c ≤ minL a l
  | [], a, c, h, _ => h
  | u :: l, a, c, h, g => by
    rw [minL_cons]
    exact minL_ge l (min a u) c (by have := g u (by simp); omega) (fun v hv => g v (by simp [hv]))
noncomputable def ceilV (T : Tr) (p : List Sgm) (e : Es) : Int := min T.speed (slowV p (e.min - T.len) e.max)
noncomputable def decV (T : Tr) (p : List Sgm) (e : Es) (end_ : Int) : Int := effV T.service (steepV p e.min end_)
def pastB (m : Int) (s : Sgm) : Bool := decide (m < s.from_)
noncomputable def ahdL (dec delay m : Int) (p : List Sgm) : List Int := (p.filter (pastB m)).map fun s => towV (s.from_ - m) s.speed dec delay
noncomputable def stopV (T : Tr) (dec : Int) (e : Es) (end_ : Int) : Int := max 0 (spdV (end_ - e.max) dec T.delay)
noncomputable def permV (T : Tr) (p : List Sgm) (e : Es) (end_ : Int) : Int :=
  if validB p = true then minL (min (ceilV T p e) (stopV T (decV T p e end_) e end_)) (ahdL (decV T p e end_) T.delay e.max p) else 0
theorem leastL_le : ∀ (l : List Int) (v : Int), v ∈ l → leastL l ≤ v
  | [], v, h => by cases h
  | a :: r, v, h => by
    have := minL_le r a
    rcases List.mem_cons.1 h with rfl | h
    · exact this.1
    · exact this.2 v h
theorem leastL_mem : ∀ (l : List Int), l ≠ [] → leastL l ∈ l
  | [], h => absurd rfl h
  | a :: r, _ => by
    have : ∀ (r : List Int) (a : Int), r.foldl min a ∈ a :: r := by
      intro r
      induction r with
      | nil => intro a; simp
      | cons u r ih =>
        intro a
        have := ih (min a u)
        show r.foldl min (min a u) ∈ a :: u :: r
        rcases List.mem_cons.1 this with h | h
        · rw [h]
          rcases (show min a u = a ∨ min a u = u by omega) with k | k <;> rw [k] <;> simp
        · simp [h]
    exact this r a
theorem touchB_iff {f t : Int} {s : Sgm} : touchB f t s = true ↔ s.from_ ≤ t ∧ f ≤ s.to_ := by
  unfold touchB; rw [Bool.and_eq_true, decide_eq_true_iff, decide_eq_true_iff]
theorem slow_le {p : List Sgm} {f t : Int} {s : Sgm} (hv : validB p = true) (hs : s ∈ p) (h : touchB f t s = true) : slowV p f t ≤ s.speed := by
  unfold slowV touL
  rw [if_pos hv]
  exact leastL_le _ _ (List.mem_map.2 ⟨s, List.mem_filter.2 ⟨hs, h⟩, rfl⟩)
theorem slow_bd {p : List Sgm} {f t : Int} : 0 ≤ slowV p f t ∧ slowV p f t ≤ 10000 := by
  unfold slowV touL
  split
  · rename_i hv
    by_cases hn : (p.filter (touchB f t)).map Sgm.speed = []
    · rw [hn]; decide
    · have := leastL_mem _ hn
      obtain ⟨s, hs, he⟩ := List.mem_map.1 this
      obtain ⟨hs, _⟩ := List.mem_filter.1 hs
      rw [← he]
      obtain ⟨b, hc⟩ := ch_of (validB_true.1 hv)
      obtain ⟨_, _, _, _, _, h6, h7⟩ := hc.ok s hs
      omega
  · decide
theorem slow_mono {p : List Sgm} {f t u : Int} (h : t ≤ u) (hn : ∃ s ∈ p, touchB f t s = true) : slowV p f u ≤ slowV p f t := by
  by_cases hv : validB p = true
  · have hn' : (p.filter (touchB f t)).map Sgm.speed ≠ [] := by
      obtain ⟨s, hs, hb⟩ := hn
      intro h0
      have : s ∈ p.filter (touchB f t) := List.mem_filter.2 ⟨hs, hb⟩
      rw [List.map_eq_nil_iff.1 h0] at this
      cases this
    have := leastL_mem _ hn'
    obtain ⟨s, hs, he⟩ := List.mem_map.1 this
    obtain ⟨hs, hb⟩ := List.mem_filter.1 hs
    have e : slowV p f t = s.speed := by unfold slowV touL; rw [if_pos hv]; exact he.symm
    rw [e]
    rw [touchB_iff] at hb
    exact slow_le hv hs (touchB_iff.2 ⟨by omega, hb.2⟩)
  · unfold slowV touL; rw [if_neg hv, if_neg hv]; exact Int.le_refl _
theorem stopV_bd (T : Tr) (dec : Int) (e : Es) (end_ : Int) : 0 ≤ stopV T dec e end_ ∧ stopV T dec e end_ ≤ 10000 := by
  have := spdV_bd (end_ - e.max) dec T.delay; unfold stopV; omega
theorem permV_le {T : Tr} {p : List Sgm} {e : Es} {end_ : Int} (hv : validB p = true) : permV T p e end_ ≤ ceilV T p e ∧ permV T p e end_ ≤ stopV T (decV T p e end_) e end_ := by
  unfold permV
  rw [if_pos hv]
  have := (minL_le (ahdL (decV T p e end_) T.delay e.max p) (min (ceilV T p e) (stopV T (decV T p e end_) e end_))).1
  omega
theorem permV_nonneg {T : Tr} {p : List Sgm} {e : Es} {end_ : Int} (hT : 0 ≤ T.speed) : 0 ≤ permV T p e end_ := by
  unfold permV
  split
  · rename_i hv
    refine minL_ge _ _ _ ?_ ?_
    · have := @slow_bd p (e.min - T.len) e.max
      have := stopV_bd T (decV T p e end_) e end_
      unfold ceilV; omega
    · intro v hm
      obtain ⟨s, hs, rfl⟩ := List.mem_map.1 hm
      obtain ⟨hs, _⟩ := List.mem_filter.1 hs
      obtain ⟨b, hc⟩ := ch_of (validB_true.1 hv)
      obtain ⟨_, _, _, _, _, h6, h7⟩ := hc.ok s hs
      have := towV_ge (s.from_ - e.max) s.speed (decV T p e end_) T.delay
      omega
  · omega
/-- At the permitted speed the service brake stops before the end. -/
theorem permV_stops {T : Tr} {p : List Sgm} {e : Es} {end_ : Int} : permV T p e end_ ≤ 0 ∨ dstV (permV T p e end_) (decV T p e end_) T.delay ≤ end_ - e.max := by
  by_cases hv : validB p = true
  · obtain ⟨_, h⟩ := permV_le (T := T) (e := e) (end_ := end_) hv
    by_cases c : permV T p e end_ ≤ 0
    · exact .inl c
    · right
      have k := spdV_is (end_ - e.max) (decV T p e end_) T.delay
      unfold stopV at h
      by_cases c2 : end_ - e.max < 0
      · have := k.1 c2; omega
      · obtain ⟨_, _, k3, _⟩ := k.2 (by omega)
        have := dstV_mono (dec := decV T p e end_) (delay := T.delay) (show permV T p e end_ ≤ spdV (end_ - e.max) (decV T p e end_) T.delay by omega)
        omega
  · left; unfold permV; rw [if_neg hv]; omega
theorem touch_first {p : List Sgm} {f t : Int} (hv : validB p = true) (h0 : 0 < p.length) (hf : headF p ≤ f) (ht : f ≤ lastT p) (hft : f ≤ t) : ∃ s ∈ p, touchB f t s = true := by
  obtain ⟨b, hc⟩ := ch_of (validB_true.1 hv)
  have hl := ch_last hc h0
  rw [hl] at ht
  have key : ∀ {q : List Sgm} {c d : Int}, Ch c q d → 0 < q.length → c ≤ f → f ≤ d → ∃ s ∈ q, touchB f t s = true := by
    intro q
    induction q with
    | nil => intro c d _ h; simp at h
    | cons s r ih =>
      intro c d ⟨g1, g2, g3⟩ _ k1 k2
      by_cases k : f ≤ s.to_
      · exact ⟨s, by simp, touchB_iff.2 ⟨by omega, k⟩⟩
      · cases r with
        | nil => have : s.to_ = d := g3; omega
        | cons u r =>
          obtain ⟨x, hx, hb⟩ := ih g3 (by simp) (by omega) k2
          exact ⟨x, by simp [hx], hb⟩
  exact key hc h0 hf ht
theorem mem_ge {p : List Sgm} (hv : validB p = true) : ∀ s ∈ p, headF p ≤ s.from_ := by
  obtain ⟨b, hc⟩ := ch_of (validB_true.1 hv)
  have key : ∀ {q : List Sgm} {c d : Int}, Ch c q d → ∀ s ∈ q, c ≤ s.from_ := by
    intro q
    induction q with
    | nil => intro c d _ s h; cases h
    | cons v q ih =>
      intro c d ⟨g1, g2, g3⟩ s hs
      rcases List.mem_cons.1 hs with rfl | hs
      · omega
      · have := ih g3 s hs
        obtain ⟨_, g4, _⟩ := g2
        omega
  exact key hc
theorem permV_mono {T : Tr} {p : List Sgm} {e : Es} {end_ further : Int} (hv : validB p = true) (h0 : 0 < p.length) (hme : e.min ≤ e.max) (hL : 0 ≤ T.len) (hf : headF p ≤ e.min - T.len) (hl : further ≤ lastT p) (hm : e.max ≤ further) :
    permV T p { e with max := further } end_ ≤ permV T p e end_ := by
  have hd : decV T p { e with max := further } end_ = decV T p e end_ := rfl
  unfold permV
  rw [if_pos hv, if_pos hv, hd]
  have hc : ceilV T p { e with max := further } ≤ ceilV T p e := by
    have := slow_mono (p := p) (f := e.min - T.len) hm (touch_first hv h0 hf (by omega) (by omega))
    unfold ceilV; show min T.speed (slowV p (e.min - T.len) further) ≤ _; omega
  have hs : stopV T (decV T p e end_) { e with max := further } end_ ≤ stopV T (decV T p e end_) e end_ := by
    have := spdV_mono (dec := decV T p e end_) (delay := T.delay) (show end_ - further ≤ end_ - e.max by omega)
    unfold stopV; show max 0 (spdV (end_ - further) _ _) ≤ _; omega
  obtain ⟨k1, k2⟩ := minL_le (ahdL (decV T p e end_) T.delay further p) (min (ceilV T p { e with max := further }) (stopV T (decV T p e end_) { e with max := further } end_))
  refine minL_ge _ _ _ (by show minL _ (ahdL (decV T p e end_) T.delay further p) ≤ _; omega) ?_
  intro v hm2
  obtain ⟨s, hs2, rfl⟩ := List.mem_map.1 hm2
  obtain ⟨hs3, hb⟩ := List.mem_filter.1 hs2
  have hb' : e.max < s.from_ := by simpa [pastB] using hb
  obtain ⟨b, hch⟩ := ch_of (validB_true.1 hv)
  obtain ⟨_, s2, _, _, _, s6, s7⟩ := hch.ok s hs3
  show minL _ (ahdL (decV T p e end_) T.delay further p) ≤ _
  by_cases c : further < s.from_
  · have := k2 (towV (s.from_ - further) s.speed (decV T p e end_) T.delay) (List.mem_map.2 ⟨s, List.mem_filter.2 ⟨hs3, by simpa [pastB] using c⟩, rfl⟩)
    have := towV_mono (dec := decV T p e end_) (delay := T.delay) (show 0 ≤ s.from_ - further by omega) (show s.from_ - further ≤ s.from_ - e.max by omega) (show 0 ≤ s.speed by omega) (Int.le_refl _) s7
    omega
  · have := slow_le (f := e.min - T.len) (t := further) hv hs3 (touchB_iff.2 ⟨by omega, by omega⟩)
    have := towV_ge (s.from_ - e.max) s.speed (decV T p e end_) T.delay
    have : ceilV T p { e with max := further } ≤ s.speed := by unfold ceilV; show min T.speed (slowV p (e.min - T.len) further) ≤ _; omega
    omega
/-- The train brakes: what it has moved and the braking distance of what is left of its speed. -/
theorem dst_one {v dec : Int} (hv : 0 < v) (hv2 : v ≤ 20000) (hd : 1 ≤ dec) : dstV v dec 0 = max 0 (v - dec) + dstV (max 0 (v - dec)) dec 0 := by
  have e1 : stV v = v := by unfold stV; omega
  have w0 : wtV 0 = 0 := by decide
  rw [dstV_pos hv hd, e1, w0]
  by_cases c : v ≤ dec
  · have e2 : max 0 (v - dec) = 0 := by omega
    have e3 : nV v dec = 0 := by
      unfold nV; rw [e1]; exact Int.ediv_eq_zero_of_lt (by omega) (by omega)
    rw [e2, e3]
    have : triV 0 = 0 := by decide
    have : dstV 0 dec 0 = 0 := by unfold dstV; rw [if_pos (by omega)]
    simp [*]
  · have e2 : max 0 (v - dec) = v - dec := by omega
    have e4 : stV (v - dec) = v - dec := by unfold stV; omega
    have e3 : nV v dec = nV (v - dec) dec + 1 := by
      unfold nV; rw [e1, e4]
      have : v - 1 = (v - dec - 1) + 1 * dec := by omega
      rw [this, Int.add_mul_ediv_right _ _ (by omega)]
    rw [e2, dstV_pos (by omega) hd, e4, w0, e3]
    have t := triV_succ (nV (v - dec) dec)
    rw [t]
    generalize nV (v - dec) dec = n
    generalize triV n = T
    grind
theorem dst_wait {v dec : Int} (delay : Int) (hv : 0 < v) (hd : 1 ≤ dec) : dstV v dec delay = wtV delay * stV v + dstV v dec 0 := by
  have w0 : wtV 0 = 0 := by decide
  rw [dstV_pos hv hd, dstV_pos hv hd, w0]
  omega
end Sg
