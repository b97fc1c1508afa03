/- Plain mathematics of profiles: Cut at a place, Join. No program in sight. -/
import Derived.Test.YthkknagicdanfaaPLimit
set_option linter.unusedVariables false
set_option linter.unusedSimpArgs false
namespace Sg

/-- The parts before and behind a coordinate. -/
def loS (x : Int) (s : Sgm) : Sgm := ⟨s.from_, min s.to_ x, s.grade, s.speed⟩
def hiS (x : Int) (s : Sgm) : Sgm := ⟨max s.from_ x, s.to_, s.grade, s.speed⟩
def loF (x : Int) (p : List Sgm) : List Sgm := (p.filter fun s => decide (s.from_ < x)).map (loS x)
def hiF (x : Int) (p : List Sgm) : List Sgm := (p.filter fun s => decide (x < s.to_)).map (hiS x)
theorem loF_cons (x : Int) (s : Sgm) (r : List Sgm) : loF x (s :: r) = if s.from_ < x then loS x s :: loF x r else loF x r := by
  unfold loF; rw [List.filter_cons]; by_cases h : s.from_ < x <;> simp [h]
theorem hiF_cons (x : Int) (s : Sgm) (r : List Sgm) : hiF x (s :: r) = if x < s.to_ then hiS x s :: hiF x r else hiF x r := by
  unfold hiF; rw [List.filter_cons]; by_cases h : x < s.to_ <;> simp [h]
theorem cutF_cons (f t : Int) (s : Sgm) (r : List Sgm) : cutF f t (s :: r) = if max s.from_ f < min s.to_ t then partS f t s :: cutF f t r else cutF f t r := by
  unfold cutF; rw [List.filter_cons]
  by_cases h : max s.from_ f < min s.to_ t
  · rw [if_pos (partB_iff.2 h), if_pos h]; rfl
  · rw [if_neg (fun c => h (partB_iff.1 c)), if_neg h]
theorem cut_lo {A x : Int} : ∀ {p : List Sgm} {a b : Int}, Ch a p b → A ≤ a → cutF A x p = loF x p
  | [], _, _, _, _ => rfl
  | s :: r, a, b, ⟨h1, h2, h3⟩, hA => by
    obtain ⟨_, hlt, _⟩ := h2
    rw [cutF_cons, loF_cons, cut_lo h3 (by omega)]
    by_cases c : s.from_ < x
    · rw [if_pos (by omega), if_pos c]
      exact congrArg (· :: _) (Sgm.eq (show max s.from_ A = s.from_ by omega) rfl rfl rfl)
    · rw [if_neg (by omega), if_neg c]
theorem cut_hi {B x : Int} : ∀ {p : List Sgm} {a b : Int}, Ch a p b → b ≤ B → cutF x B p = hiF x p
  | [], _, _, _, _ => rfl
  | s :: r, a, b, ⟨h1, h2, h3⟩, hB => by
    obtain ⟨_, hlt, _⟩ := h2
    have := h3.le
    rw [cutF_cons, hiF_cons, cut_hi h3 hB]
    by_cases c : x < s.to_
    · rw [if_pos (by omega), if_pos c]
      exact congrArg (· :: _) (Sgm.eq rfl (show min s.to_ B = s.to_ by omega) rfl rfl)
    · rw [if_neg (by omega), if_neg c]
theorem lo_all {x : Int} : ∀ {p : List Sgm} {a b : Int}, Ch a p b → b ≤ x → loF x p = p ∧ hiF x p = []
  | [], _, _, _, _ => ⟨rfl, rfl⟩
  | s :: r, a, b, ⟨h1, h2, h3⟩, hB => by
    obtain ⟨_, hlt, _⟩ := h2
    have := h3.le
    obtain ⟨i1, i2⟩ := lo_all h3 hB
    rw [loF_cons, hiF_cons, i1, i2, if_pos (by omega), if_neg (by omega)]
    exact ⟨congrArg (· :: _) (Sgm.eq rfl (show min s.to_ x = s.to_ by omega) rfl rfl), rfl⟩
theorem hi_all {x : Int} : ∀ {p : List Sgm} {a b : Int}, Ch a p b → x ≤ a → loF x p = [] ∧ hiF x p = p
  | [], _, _, _, _ => ⟨rfl, rfl⟩
  | s :: r, a, b, ⟨h1, h2, h3⟩, hB => by
    obtain ⟨_, hlt, _⟩ := h2
    obtain ⟨i1, i2⟩ := hi_all h3 (show x ≤ s.to_ by omega)
    rw [loF_cons, hiF_cons, i1, i2, if_neg (by omega), if_pos (by omega)]
    exact ⟨rfl, congrArg (· :: _) (Sgm.eq (show max s.from_ x = s.from_ by omega) rfl rfl rfl)⟩
def likeP (s u : Sgm) : Prop := u.grade = s.grade ∧ u.speed = s.speed
def atLike (y : Int) (p q : List Sgm) : Prop := (p.find? (hitB y) = none ∧ q.find? (hitB y) = none) ∨ ∃ s u, p.find? (hitB y) = some s ∧ q.find? (hitB y) = some u ∧ likeP s u
theorem atLike.refl (y : Int) (p : List Sgm) : atLike y p p := by
  cases h : p.find? (hitB y) with
  | none => exact .inl ⟨h, h⟩
  | some s => exact .inr ⟨s, s, h, h, rfl, rfl⟩
theorem atLike.cons {y : Int} {p q : List Sgm} (s : Sgm) (h : atLike y p q) : atLike y (s :: p) (s :: q) := by
  unfold atLike
  rw [List.find?_cons, List.find?_cons]
  by_cases c : hitB y s = true
  · rw [c]; exact .inr ⟨s, s, rfl, rfl, rfl, rfl⟩
  · rw [bf.2 c]; exact h
/-- A cut inside: what the two parts are. -/
theorem cut_in {x : Int} : ∀ {p : List Sgm} {a b : Int}, Ch a p b → a < x → x < b →
    Ch a (loF x p) x ∧ Ch x (hiF x p) b ∧ (((∃ s ∈ p, s.from_ = x) ∧ loF x p ++ hiF x p = p) ∨ ((∀ s ∈ p, s.from_ ≠ x) ∧ (loF x p ++ hiF x p).length = p.length + 1)) ∧ ∀ y, atLike y p (loF x p ++ hiF x p)
  | [], a, b, h, h1, h2 => by have : a = b := h; omega
  | s :: r, a, b, ⟨h1, h2, h3⟩, ha, hb => by
    have ok := h2
    obtain ⟨o1, hlt, o3, o4⟩ := h2
    have hle := h3.le
    subst h1
    rw [loF_cons, hiF_cons, if_pos ha]
    rcases Int.lt_trichotomy s.to_ x with c | c | c
    · obtain ⟨i1, i2, i3, i4⟩ := cut_in h3 c hb
      have e : loS x s = s := Sgm.eq rfl (show min s.to_ x = s.to_ by omega) rfl rfl
      rw [if_neg (by omega), e]
      refine ⟨⟨rfl, ok, i1⟩, i2, ?_, fun y => (i4 y).cons s⟩
      rcases i3 with ⟨⟨u, hu, hx⟩, i3⟩ | ⟨i3, i5⟩
      · exact .inl ⟨⟨u, by simp [hu], hx⟩, by rw [List.cons_append, i3]⟩
      · refine .inr ⟨fun u hu => ?_, by rw [List.cons_append, List.length_cons, i5, List.length_cons]⟩
        rcases List.mem_cons.1 hu with rfl | hu
        · omega
        · exact i3 u hu
    · obtain ⟨i1, i2⟩ := hi_all h3 (show x ≤ s.to_ by omega)
      have e : loS x s = s := Sgm.eq rfl (show min s.to_ x = s.to_ by omega) rfl rfl
      rw [if_neg (by omega), e, i1, i2]
      refine ⟨⟨rfl, ok, c⟩, by rw [← c]; exact h3, ?_, fun y => atLike.refl _ _⟩
      left
      refine ⟨?_, rfl⟩
      cases r with
      | nil => have : s.to_ = b := h3; omega
      | cons u r => exact ⟨u, by simp, by rw [h3.1, c]⟩
    · obtain ⟨i1, i2⟩ := hi_all h3 (show x ≤ s.to_ by omega)
      rw [if_pos c, i1, i2]
      have l1 : SegOk (loS x s) := ⟨o1, show s.from_ < min s.to_ x by omega, show min s.to_ x ≤ _ by omega, o4⟩
      have l2 : SegOk (hiS x s) := ⟨show _ ≤ max s.from_ x by omega, show max s.from_ x < s.to_ by omega, o3, o4⟩
      refine ⟨⟨rfl, l1, show min s.to_ x = x by omega⟩, ⟨show max s.from_ x = x by omega, l2, h3⟩, .inr ⟨fun u hu => ?_, rfl⟩, fun y => ?_⟩
      · rcases List.mem_cons.1 hu with rfl | hu
        · omega
        · obtain ⟨i, hi, rfl⟩ := List.getElem_of_mem hu
          have hge : ∀ {q : List Sgm} {c d : Int}, Ch c q d → ∀ i (hi : i < q.length), c ≤ q[i].from_ := by
            intro q
            induction q with
            | nil => intro c d _ i hi; simp at hi
            | cons v q ih =>
              intro c d ⟨g1, g2, g3⟩ i hi
              cases i with
              | zero => simp; omega
              | succ i =>
                have := ih g3 i (by simpa using hi)
                obtain ⟨_, g4, _⟩ := g2
                simp; omega
          have := hge h3 i hi
          omega
      · show atLike y (s :: r) (loS x s :: hiS x s :: r)
        unfold atLike
        rw [List.find?_cons, List.find?_cons, List.find?_cons]
        by_cases c1 : hitB y s = true
        · have c1' := hb0.1 c1
          rw [c1]
          by_cases c2 : y < x
          · rw [hb0.2 (show (loS x s).from_ ≤ y ∧ y < (loS x s).to_ from ⟨c1'.1, show y < min s.to_ x by omega⟩)]
            exact .inr ⟨s, loS x s, rfl, rfl, rfl, rfl⟩
          · rw [show hitB y (loS x s) = false by rw [bf, hb0]; show ¬ (s.from_ ≤ y ∧ y < min s.to_ x); omega, hb0.2 (show (hiS x s).from_ ≤ y ∧ y < (hiS x s).to_ from ⟨show max s.from_ x ≤ y by omega, c1'.2⟩)]
            exact .inr ⟨s, hiS x s, rfl, rfl, rfl, rfl⟩
        · have c1' : ¬ (s.from_ ≤ y ∧ y < s.to_) := fun h => c1 (hb0.2 h)
          rw [bf.2 c1, show hitB y (loS x s) = false by rw [bf, hb0]; show ¬ (s.from_ ≤ y ∧ y < min s.to_ x); omega, show hitB y (hiS x s) = false by rw [bf, hb0]; show ¬ (max s.from_ x ≤ y ∧ y < s.to_); omega]
          exact atLike.refl y r
/-- Join: its error and its list. -/
def lastT (p : List Sgm) : Int := (p.getD (p.length - 1) Sgm.z).to_
noncomputable def joinE (a b : List Sgm) : Int := if ¬ (validB a = true ∧ validB b = true) then 1 else if 0 < a.length ∧ 0 < b.length ∧ lastT a ≠ headF b then 10 else if 128 < a.length + b.length then 2 else 0
noncomputable def joinL (a b : List Sgm) : List Sgm := if joinE a b = 0 then a ++ b else []
theorem ch_last : ∀ {p : List Sgm} {a b : Int}, Ch a p b → 0 < p.length → lastT p = b
  | [], _, _, _, h => by simp at h
  | [s], a, b, ⟨_, _, h⟩, _ => h
  | s :: u :: r, a, b, ⟨_, _, h⟩, _ => by
    have := ch_last h (by simp)
    rw [← this]
    unfold lastT
    congr 1
theorem ch_head {p : List Sgm} {a b : Int} (h : Ch a p b) (h0 : 0 < p.length) : headF p = a := by
  cases p with
  | nil => simp at h0
  | cons s r => exact h.1
end Sg
