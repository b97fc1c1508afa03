/- Plain mathematics of profiles: Limit, Join. No program in sight. -/
import Derived.Test.YtoodehilgogomaaDoorPProf
set_option linter.unusedVariables false
set_option linter.unusedSimpArgs false
namespace Sg

/-- Segments that follow one another from a to b. -/
def Ch : Int → List Sgm → Int → Prop
  | a, [], b => a = b
  | a, s :: r, b => s.from_ = a ∧ SegOk s ∧ Ch s.to_ r b
theorem Ch.le : ∀ {p : List Sgm} {a b : Int}, Ch a p b → a ≤ b
  | [], a, b, h => by have : a = b := h; omega
  | s :: r, a, b, ⟨h1, h2, h3⟩ => by have := Ch.le h3; obtain ⟨_, h4, _⟩ := h2; omega
theorem Ch.append : ∀ {p q : List Sgm} {a b c : Int}, Ch a p b → Ch b q c → Ch a (p ++ q) c
  | [], q, a, b, c, h, g => by have : a = b := h; subst this; exact g
  | s :: r, q, a, b, c, ⟨h1, h2, h3⟩, g => ⟨h1, h2, Ch.append h3 g⟩
theorem Ch.ok : ∀ {p : List Sgm} {a b : Int}, Ch a p b → ∀ s ∈ p, SegOk s
  | [], _, _, _, s, h => by cases h
  | t :: r, a, b, ⟨_, h2, h3⟩, s, h => by
    rcases List.mem_cons.1 h with rfl | h
    · exact h2
    · exact Ch.ok h3 s h
theorem Ch.validTo : ∀ {p : List Sgm} {a b : Int}, Ch a p b → ∀ i, i < p.length → SegOk (p.getD i Sgm.z) ∧ (i ≠ 0 → (p.getD i Sgm.z).from_ = (p.getD (i - 1) Sgm.z).to_) ∧ (i = 0 → (p.getD i Sgm.z).from_ = a)
  | [], _, _, _, i, h => by simp at h
  | s :: r, a, b, ⟨h1, h2, h3⟩, 0, _ => ⟨by simpa using h2, fun h => absurd rfl h, fun _ => by simpa using h1⟩
  | s :: r, a, b, ⟨h1, h2, h3⟩, i + 1, h => by
    have ih := Ch.validTo h3 i (by simpa using h)
    refine ⟨by simpa using ih.1, fun _ => ?_, fun h => by omega⟩
    by_cases hi : i = 0
    · subst hi; have := ih.2.2 rfl; simpa using this
    · have := ih.2.1 hi
      obtain ⟨j, rfl⟩ : ∃ j, i = j + 1 := ⟨i - 1, by omega⟩
      simpa using this
theorem Ch.of_valid : ∀ {p : List Sgm} {a : Int}, (∀ i, i < p.length → SegOk (p.getD i Sgm.z) ∧ (i ≠ 0 → (p.getD i Sgm.z).from_ = (p.getD (i - 1) Sgm.z).to_) ∧ (i = 0 → (p.getD i Sgm.z).from_ = a)) → ∃ b, Ch a p b
  | [], a, _ => ⟨a, rfl⟩
  | s :: r, a, h => by
    have h0 := h 0 (by simp)
    obtain ⟨b, hb⟩ := Ch.of_valid (p := r) (a := s.to_) (fun i hi => by
      have h1 := h (i + 1) (by simpa using hi)
      refine ⟨by simpa using h1.1, fun hn => ?_, fun he => ?_⟩
      · have := h1.2.1 (by omega)
        obtain ⟨j, rfl⟩ : ∃ j, i = j + 1 := ⟨i - 1, by omega⟩
        simpa using this
      · subst he; have := h1.2.1 (by omega); simpa using this)
    exact ⟨b, by simpa using h0.2.2 rfl, by simpa using h0.1, hb⟩
def headF (p : List Sgm) : Int := (p.getD 0 Sgm.z).from_
theorem ch_of {p : List Sgm} (h : Valid p) : ∃ b, Ch (headF p) p b :=
  Ch.of_valid fun i hi => ⟨(h.2 i hi).1, fun hn => (h.2 i hi).2.resolve_left hn, fun he => by subst he; rfl⟩
theorem valid_of {p : List Sgm} {a b : Int} (h : Ch a p b) (hl : p.length ≤ 128) : Valid p :=
  ⟨hl, fun i hi => ⟨(h.validTo i hi).1, by
    by_cases e : i = 0
    · exact .inl e
    · exact .inr ((h.validTo i hi).2.1 e)⟩⟩

/-- What Limit makes of one segment. -/
def lenB (s : Sgm) : Bool := decide (s.from_ < s.to_)
def befS (f t : Int) (s : Sgm) : Sgm := ⟨s.from_, max s.from_ f, s.grade, s.speed⟩
def midS (f t v : Int) (s : Sgm) : Sgm := ⟨max s.from_ f, min s.to_ t, s.grade, min s.speed v⟩
def aftS (f t : Int) (s : Sgm) : Sgm := ⟨min s.to_ t, s.to_, s.grade, s.speed⟩
def limS (f t v : Int) (s : Sgm) : List Sgm := if partB f t s = true then [befS f t s, midS f t v s, aftS f t s].filter lenB else [s]
def limF (f t v : Int) (p : List Sgm) : List Sgm := p.flatMap (limS f t v)
noncomputable def limL (p : List Sgm) (f t v : Int) : List Sgm := if validB p = true ∧ 1 ≤ v then (if (limF f t v p).length ≤ 128 then limF f t v p else []) else []
theorem partB_iff {f t : Int} {s : Sgm} : partB f t s = true ↔ max s.from_ f < min s.to_ t := decide_eq_true_iff
theorem lb1 {f t : Int} {s : Sgm} : lenB (befS f t s) = true ↔ s.from_ < max s.from_ f := decide_eq_true_iff
theorem lb2 {f t v : Int} {s : Sgm} : lenB (midS f t v s) = true ↔ max s.from_ f < min s.to_ t := decide_eq_true_iff
theorem lb3 {f t : Int} {s : Sgm} : lenB (aftS f t s) = true ↔ min s.to_ t < s.to_ := decide_eq_true_iff
theorem hb0 {y : Int} {s : Sgm} : hitB y s = true ↔ s.from_ ≤ y ∧ y < s.to_ := by unfold hitB; rw [Bool.and_eq_true, decide_eq_true_iff, decide_eq_true_iff]
theorem bf {b : Bool} : b = false ↔ ¬ b = true := by cases b <;> simp
theorem limS_ch {f t v : Int} {s : Sgm} (h : SegOk s) (hv : 1 ≤ v) : Ch s.from_ (limS f t v s) s.to_ := by
  unfold limS
  obtain ⟨g1, g2, g3, g4, g5, g6, g7⟩ := h
  split
  · rename_i hp
    rw [partB_iff] at hp
    have e2 : lenB (midS f t v s) = true := lb2.2 hp
    have om : SegOk (midS f t v s) := ⟨show _ ≤ max s.from_ f by omega, hp, show min s.to_ t ≤ _ by omega, g4, g5, show 1 ≤ min s.speed v by omega, show min s.speed v ≤ _ by omega⟩
    by_cases c1 : lenB (befS f t s) = true
    · have c1' := lb1.1 c1
      have ob : SegOk (befS f t s) := ⟨g1, c1', show max s.from_ f ≤ _ by omega, g4, g5, g6, g7⟩
      by_cases c3 : lenB (aftS f t s) = true
      · have c3' := lb3.1 c3
        have oa : SegOk (aftS f t s) := ⟨show _ ≤ min s.to_ t by omega, c3', g3, g4, g5, g6, g7⟩
        simp only [List.filter_cons, c1, e2, c3, if_true, List.filter_nil]
        exact ⟨rfl, ob, rfl, om, rfl, oa, rfl⟩
      · have c3' : lenB (aftS f t s) = false := bf.2 c3
        rw [lb3] at c3
        simp only [List.filter_cons, c1, e2, c3', if_true, List.filter_nil]
        exact ⟨rfl, ob, rfl, om, show min s.to_ t = s.to_ by omega⟩
    · have c1' : lenB (befS f t s) = false := bf.2 c1
      rw [lb1] at c1
      by_cases c3 : lenB (aftS f t s) = true
      · have c3' := lb3.1 c3
        have oa : SegOk (aftS f t s) := ⟨show _ ≤ min s.to_ t by omega, c3', g3, g4, g5, g6, g7⟩
        simp only [List.filter_cons, c1', e2, c3, if_true, List.filter_nil]
        exact ⟨show max s.from_ f = s.from_ by omega, om, rfl, oa, rfl⟩
      · have c3' : lenB (aftS f t s) = false := bf.2 c3
        rw [lb3] at c3
        simp only [List.filter_cons, c1', e2, c3', if_true, List.filter_nil]
        exact ⟨show max s.from_ f = s.from_ by omega, om, show min s.to_ t = s.to_ by omega⟩
  · exact ⟨rfl, ⟨g1, g2, g3, g4, g5, g6, g7⟩, rfl⟩
theorem limF_ch {f t v : Int} (hv : 1 ≤ v) : ∀ {p : List Sgm} {a b : Int}, Ch a p b → Ch a (limF f t v p) b
  | [], _, _, h => h
  | s :: r, a, b, ⟨h1, h2, h3⟩ => by
    subst h1
    exact (limS_ch h2 hv).append (limF_ch hv h3)
theorem limS_len (f t v : Int) (s : Sgm) : (limS f t v s).length ≤ 3 := by
  unfold limS; split
  · have := List.length_filter_le lenB [befS f t s, midS f t v s, aftS f t s]; simpa using this
  · simp
theorem limS_len2 (f t v : Int) (s : Sgm) : (limS f t v s).length ≤ 1 + (if s.from_ < f ∧ f < s.to_ then 1 else 0) + (if s.from_ < t ∧ t < s.to_ then 1 else 0) := by
  unfold limS; split
  · rename_i hp
    rw [partB_iff] at hp
    have e2 : lenB (midS f t v s) = true := lb2.2 hp
    have n1 : [befS f t s].filter lenB = [] ∨ (s.from_ < f ∧ f < s.to_) := by
      by_cases c : lenB (befS f t s) = true
      · have := lb1.1 c; right; omega
      · left; simp [bf.2 c]
    have n3 : [aftS f t s].filter lenB = [] ∨ (s.from_ < t ∧ t < s.to_) := by
      by_cases c : lenB (aftS f t s) = true
      · have := lb3.1 c; right; omega
      · left; simp [bf.2 c]
    have m1 := List.length_filter_le lenB [befS f t s]
    have m3 := List.length_filter_le lenB [aftS f t s]
    have e : [befS f t s, midS f t v s, aftS f t s].filter lenB = [befS f t s].filter lenB ++ ([midS f t v s].filter lenB ++ [aftS f t s].filter lenB) := by
      rw [← List.filter_append, ← List.filter_append]; rfl
    have m2 := List.length_filter_le lenB [midS f t v s]
    rw [e, List.length_append, List.length_append]
    simp only [List.length_cons, List.length_nil] at m1 m2 m3
    rcases n1 with n1 | n1 <;> rcases n3 with n3 | n3
    · rw [n1, n3]; simp only [List.length_nil]; omega
    · rw [n1, if_pos n3]; simp only [List.length_nil]; omega
    · rw [n3, if_pos n1]; simp only [List.length_nil]; omega
    · rw [if_pos n1, if_pos n3]; omega
  · simp only [List.length_cons, List.length_nil]; omega
theorem limF_len {f t v : Int} : ∀ {p : List Sgm} {a b : Int}, Ch a p b → (limF f t v p).length ≤ p.length + (if a < f then 1 else 0) + (if a < t then 1 else 0)
  | [], _, _, _ => by simp [limF]
  | s :: r, a, b, ⟨h1, h2, h3⟩ => by
    have ih := limF_len (f := f) (t := t) (v := v) h3
    have hs := limS_len2 f t v s
    have e : limF f t v (s :: r) = limS f t v s ++ limF f t v r := rfl
    obtain ⟨_, hlt, _⟩ := h2
    subst h1
    rw [e, List.length_append, List.length_cons]
    by_cases a1 : s.from_ < f <;> by_cases a2 : f < s.to_ <;> by_cases a3 : s.to_ < f <;> by_cases b1 : s.from_ < t <;> by_cases b2 : t < s.to_ <;> by_cases b3 : s.to_ < t <;> simp only [a1, a2, a3, b1, b2, b3, and_self, and_true, and_false, false_and, if_true, if_false] at ih hs ⊢ <;> omega
theorem limF_len3 (f t v : Int) (p : List Sgm) : (limF f t v p).length ≤ 3 * p.length := by
  induction p with
  | nil => simp [limF]
  | cons s r ih =>
    have e : limF f t v (s :: r) = limS f t v s ++ limF f t v r := rfl
    have := limS_len f t v s
    rw [e, List.length_append, List.length_cons]; omega
theorem limF_take {f t v : Int} {p : List Sgm} {k : Nat} {s : Sgm} (h : p[k]? = some s) : limF f t v (p.take (k + 1)) = limF f t v (p.take k) ++ limS f t v s := by
  obtain ⟨hl, rfl⟩ := List.getElem?_eq_some_iff.1 h
  rw [List.take_succ_eq_append_getElem hl]
  unfold limF
  rw [List.flatMap_append]
  simp
theorem limS_idem {f t v : Int} {s : Sgm} (h : s.from_ < s.to_) : ∀ u ∈ limS f t v s, limS f t v u = [u] := by
  intro u hu
  have part_no : ∀ u : Sgm, ¬ (max u.from_ f < min u.to_ t) → limS f t v u = [u] := fun u hn => by
    unfold limS; rw [if_neg (by rw [partB_iff]; exact hn)]
  unfold limS at hu
  split at hu
  · rename_i hp
    rw [partB_iff] at hp
    rw [List.mem_filter] at hu
    obtain ⟨hu, hl⟩ := hu
    simp only [List.mem_cons, List.not_mem_nil, or_false] at hu
    rcases hu with rfl | rfl | rfl
    · refine part_no _ ?_; have := lb1.1 hl; show ¬ (max s.from_ f < min (max s.from_ f) t); omega
    · have hm : max (midS f t v s).from_ f < min (midS f t v s).to_ t := by simp [midS]; omega
      unfold limS
      rw [if_pos (by rw [partB_iff]; exact hm)]
      have e1 : lenB (befS f t (midS f t v s)) = false := by rw [bf, lb1]; show ¬ (max s.from_ f < max (max s.from_ f) f); omega
      have e2 : lenB (midS f t v (midS f t v s)) = true := by rw [lb2]; exact hm
      have e3 : lenB (aftS f t (midS f t v s)) = false := by rw [bf, lb3]; show ¬ (min (min s.to_ t) t < min s.to_ t); omega
      simp only [List.filter_cons, e1, e2, e3, if_true, List.filter_nil]
      exact congrArg (fun x => [x]) (Sgm.eq (show max (max s.from_ f) f = max s.from_ f by omega) (show min (min s.to_ t) t = min s.to_ t by omega) rfl (show min (min s.speed v) v = min s.speed v by omega))
    · refine part_no _ ?_; have := lb3.1 hl; show ¬ (max (min s.to_ t) f < min s.to_ t); omega
  · simp at hu; subst hu; rename_i hp; exact part_no _ (by rw [← partB_iff]; exact hp)
theorem limF_idem {f t v : Int} : ∀ {p : List Sgm}, (∀ s ∈ p, s.from_ < s.to_) → limF f t v (limF f t v p) = limF f t v p
  | [], _ => rfl
  | s :: r, h => by
    have e : limF f t v (s :: r) = limS f t v s ++ limF f t v r := rfl
    have hs : ∀ l : List Sgm, (∀ u ∈ l, limS f t v u = [u]) → limF f t v l = l := fun l => by
      induction l with
      | nil => intro _; rfl
      | cons u l ih =>
        intro hl
        have e2 : limF f t v (u :: l) = limS f t v u ++ limF f t v l := rfl
        rw [e2, hl u (by simp), ih (fun x hx => hl x (by simp [hx]))]; rfl
    have e3 : ∀ l m : List Sgm, limF f t v (l ++ m) = limF f t v l ++ limF f t v m := fun l m => by unfold limF; rw [List.flatMap_append]
    rw [e, e3, hs _ (limS_idem (h s (by simp))), limF_idem (fun u hu => h u (by simp [hu]))]
theorem valid_one {s : Sgm} (h : SegOk s) : validB [s] = true := validB_true.2 ⟨by simp, fun i hi => by
  have : i = 0 := by simp at hi; omega
  subst this; exact ⟨h, .inl rfl⟩⟩
theorem cut_one {s : Sgm} (h : SegOk s) (f t : Int) : cutL [s] f t = if partB f t s = true then [partS f t s] else [] := by
  rw [cutL, if_pos (valid_one h)]; unfold cutF; rw [List.filter_cons]; split <;> rfl
theorem cut_before {s : Sgm} (h : SegOk s) {f t : Int} (hp : partB f t s = true) : cutL [s] (-1073741824) f = [befS f t s].filter lenB := by
  rw [cut_one h, List.filter_cons, List.filter_nil]
  rw [partB_iff] at hp
  obtain ⟨h1, h2, h3, _⟩ := h
  by_cases c : s.from_ < f
  · rw [if_pos (partB_iff.2 (by omega)), if_pos (lb1.2 (by omega))]
    exact congrArg (fun x => [x]) (Sgm.eq (show max s.from_ (-1073741824) = s.from_ by omega) (show min s.to_ f = max s.from_ f by omega) rfl rfl)
  · rw [if_neg (fun k => by rw [partB_iff] at k; omega), if_neg (fun k => by rw [lb1] at k; omega)]
theorem cut_after {s : Sgm} (h : SegOk s) {f t : Int} (hp : partB f t s = true) : cutL [s] t 1073741824 = [aftS f t s].filter lenB := by
  rw [cut_one h, List.filter_cons, List.filter_nil]
  rw [partB_iff] at hp
  obtain ⟨h1, h2, h3, _⟩ := h
  by_cases c : t < s.to_
  · rw [if_pos (partB_iff.2 (by omega)), if_pos (lb3.2 (by omega))]
    exact congrArg (fun x => [x]) (Sgm.eq (show max s.from_ t = min s.to_ t by omega) (show min s.to_ 1073741824 = s.to_ by omega) rfl rfl)
  · rw [if_neg (fun k => by rw [partB_iff] at k; omega), if_neg (fun k => by rw [lb3] at k; omega)]
theorem lim_three {s : Sgm} {f t v : Int} (hp : partB f t s = true) : limS f t v s = [befS f t s].filter lenB ++ ([midS f t v s] ++ [aftS f t s].filter lenB) := by
  rw [limS, if_pos hp]
  have e2 : lenB (midS f t v s) = true := lb2.2 (partB_iff.1 hp)
  have e : [midS f t v s] = [midS f t v s].filter lenB := by simp [e2]
  rw [e, ← List.filter_append, ← List.filter_append]; rfl
/-- What is found at a coordinate. -/
def lowP (f t v y : Int) (s u : Sgm) : Prop := u.grade = s.grade ∧ u.speed = if f ≤ y ∧ y < t then min s.speed v else s.speed
theorem limS_at {f t v y : Int} {s : Sgm} (h : s.from_ < s.to_) : if hitB y s = true then ∃ u, (limS f t v s).find? (hitB y) = some u ∧ lowP f t v y s u else (limS f t v s).find? (hitB y) = none := by
  unfold limS
  by_cases hp : partB f t s = true
  · rw [if_pos hp]
    rw [partB_iff] at hp
    have e2 : lenB (midS f t v s) = true := lb2.2 hp
    by_cases hy : hitB y s = true
    · rw [if_pos hy]
      have hy' := hb0.1 hy
      by_cases c1 : y < f
      · refine ⟨befS f t s, ?_, ?_⟩
        · have e1 : lenB (befS f t s) = true := lb1.2 (by omega)
          have e4 : hitB y (befS f t s) = true := hb0.2 ⟨hy'.1, show y < max s.from_ f by omega⟩
          simp only [List.filter_cons, e1, if_true, List.find?_cons, e4]
        · refine ⟨rfl, ?_⟩; rw [if_neg (by omega)]; rfl
      · by_cases c2 : y < t
        · refine ⟨midS f t v s, ?_, ?_⟩
          · have e4 : hitB y (befS f t s) = false := by rw [bf, hb0]; show ¬ (s.from_ ≤ y ∧ y < max s.from_ f); omega
            have e5 : hitB y (midS f t v s) = true := hb0.2 ⟨show max s.from_ f ≤ y by omega, show y < min s.to_ t by omega⟩
            simp only [List.filter_cons, e2, if_true]
            split <;> simp only [List.find?_cons, e4, e5]
          · refine ⟨rfl, ?_⟩; rw [if_pos (by omega)]; rfl
        · refine ⟨aftS f t s, ?_, ?_⟩
          · have e4 : hitB y (befS f t s) = false := by rw [bf, hb0]; show ¬ (s.from_ ≤ y ∧ y < max s.from_ f); omega
            have e5 : hitB y (midS f t v s) = false := by rw [bf, hb0]; show ¬ (max s.from_ f ≤ y ∧ y < min s.to_ t); omega
            have e6 : hitB y (aftS f t s) = true := hb0.2 ⟨show min s.to_ t ≤ y by omega, hy'.2⟩
            have e3 : lenB (aftS f t s) = true := lb3.2 (by omega)
            simp only [List.filter_cons, e2, e3, if_true]
            split <;> simp only [List.find?_cons, e4, e5, e6]
          · refine ⟨rfl, ?_⟩; rw [if_neg (by omega)]; rfl
    · rw [if_neg hy]
      have hy' : ¬ (s.from_ ≤ y ∧ y < s.to_) := fun h => hy (hb0.2 h)
      rw [List.find?_eq_none]
      intro u hu
      rw [List.mem_filter] at hu
      obtain ⟨hu, _⟩ := hu
      simp only [List.mem_cons, List.not_mem_nil, or_false] at hu
      rcases hu with rfl | rfl | rfl
      · rw [hb0]; show ¬ (s.from_ ≤ y ∧ y < max s.from_ f); omega
      · rw [hb0]; show ¬ (max s.from_ f ≤ y ∧ y < min s.to_ t); omega
      · rw [hb0]; show ¬ (min s.to_ t ≤ y ∧ y < s.to_); omega
  · rw [if_neg hp]
    rw [partB_iff] at hp
    by_cases hy : hitB y s = true
    · rw [if_pos hy]
      have hy' := hb0.1 hy
      exact ⟨s, by simp [List.find?_cons, hy], rfl, by rw [if_neg (by omega)]⟩
    · rw [if_neg hy]
      have hy' : hitB y s = false := by simpa using hy
      simp [List.find?_cons, hy']
theorem limF_at {f t v y : Int} : ∀ {p : List Sgm}, (∀ s ∈ p, s.from_ < s.to_) → (p.find? (hitB y) = none ∧ (limF f t v p).find? (hitB y) = none) ∨ ∃ s u, p.find? (hitB y) = some s ∧ (limF f t v p).find? (hitB y) = some u ∧ lowP f t v y s u
  | [], _ => .inl ⟨rfl, rfl⟩
  | s :: r, h => by
    have e : limF f t v (s :: r) = limS f t v s ++ limF f t v r := rfl
    have hs := limS_at (f := f) (t := t) (v := v) (y := y) (h s (by simp))
    have ih := limF_at (f := f) (t := t) (v := v) (y := y) (p := r) (fun u hu => h u (by simp [hu]))
    rw [e, List.find?_append, List.find?_cons]
    by_cases hy : hitB y s = true
    · rw [if_pos hy] at hs
      obtain ⟨u, h1, h2⟩ := hs
      rw [hy, h1]
      exact .inr ⟨s, u, rfl, rfl, h2⟩
    · rw [if_neg hy] at hs
      have hy' : hitB y s = false := by simpa using hy
      rw [hy', hs]
      simpa using ih
end Sg
