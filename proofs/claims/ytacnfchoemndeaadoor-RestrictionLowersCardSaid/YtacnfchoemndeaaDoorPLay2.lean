/- Plain mathematics of speed restrictions: what all of them make of a profile; put, set, removed. No program in sight. -/
import Derived.Test.YtacnfchoemndeaaDoorPLay
set_option linter.unusedVariables false
set_option linter.unusedSimpArgs false
namespace Sg

/-- q covers what p covers, with the same gradients; a speed is at most q's iff it is at most p's and C lets it. -/
def LowTo (C : Int → Int → Prop) (p q : List Sgm) : Prop := ∃ a b, Ch a p b ∧ Ch a q b ∧ ∀ y, (p.find? (hitB y) = none ∧ q.find? (hitB y) = none) ∨ ∃ s u, p.find? (hitB y) = some s ∧ q.find? (hitB y) = some u ∧ u.grade = s.grade ∧ ∀ x, x ≤ u.speed ↔ x ≤ s.speed ∧ C y x
theorem LowTo.refl {p : List Sgm} (h : Valid p) : LowTo (fun _ _ => True) p p := by
  obtain ⟨b, hb⟩ := ch_of h
  refine ⟨_, b, hb, hb, fun y => ?_⟩
  cases hf : p.find? (hitB y) with
  | none => exact .inl ⟨rfl, rfl⟩
  | some s => exact .inr ⟨s, s, rfl, rfl, rfl, fun x => by simp⟩
theorem LowTo.congr {C D : Int → Int → Prop} {p q : List Sgm} (h : LowTo C p q) (hc : ∀ y x, C y x ↔ D y x) : LowTo D p q := by
  obtain ⟨a, b, h1, h2, h3⟩ := h
  refine ⟨a, b, h1, h2, fun y => ?_⟩
  rcases h3 y with h | ⟨s, u, g1, g2, g3, g4⟩
  · exact .inl h
  · exact .inr ⟨s, u, g1, g2, g3, fun x => by rw [g4, hc]⟩
theorem ch_end : ∀ {p : List Sgm} {a b c : Int}, Ch a p b → Ch a p c → b = c
  | [], a, b, c, h, g => by have h1 : a = b := h; have h2 : a = c := g; omega
  | s :: r, a, b, c, ⟨_, _, h⟩, ⟨_, _, g⟩ => ch_end h g
theorem ch_start {p : List Sgm} {a b c d : Int} (hp : p ≠ []) (h : Ch a p b) (g : Ch c p d) : a = c := by
  cases p with
  | nil => exact absurd rfl hp
  | cons s r => exact h.1.symm.trans g.1
theorem LowTo.trans {C D : Int → Int → Prop} {p q r : List Sgm} (hq : q ≠ []) (h : LowTo C p q) (g : LowTo D q r) : LowTo (fun y x => C y x ∧ D y x) p r := by
  obtain ⟨a, b, h1, h2, h3⟩ := h
  obtain ⟨a', b', g1, g2, g3⟩ := g
  have ea := ch_start hq h2 g1
  subst ea
  have eb := ch_end h2 g1
  subst eb
  refine ⟨a, b, h1, g2, fun y => ?_⟩
  rcases h3 y with ⟨k1, k2⟩ | ⟨s, u, k1, k2, k3, k4⟩
  · rcases g3 y with ⟨m1, m2⟩ | ⟨s', u', m1, m2, m3, m4⟩
    · exact .inl ⟨k1, m2⟩
    · rw [k2] at m1; cases m1
  · rcases g3 y with ⟨m1, m2⟩ | ⟨s', u', m1, m2, m3, m4⟩
    · rw [k2] at m1; cases m1
    · rw [k2] at m1; cases m1
      exact .inr ⟨s, u', k1, m2, m3.trans k3, fun x => by rw [m4, k4, and_assoc]⟩
theorem limL_low {p : List Sgm} {f t v : Int} (hp : Valid p) (hv : 1 ≤ v) (hn : limL p f t v ≠ []) : Valid (limL p f t v) ∧ (limL p f t v).length ≤ p.length + 2 ∧ LowTo (fun y x => f ≤ y → y < t → x ≤ v) p (limL p f t v) := by
  obtain ⟨b, hb⟩ := ch_of hp
  have e : limL p f t v = limF f t v p ∧ (limF f t v p).length ≤ 128 := by
    unfold limL at hn ⊢
    split at hn
    · rename_i h; rw [if_pos h]
      split at hn
      · rename_i h'; rw [if_pos h']; exact ⟨rfl, h'⟩
      · exact absurd rfl hn
    · exact absurd rfl hn
  rw [e.1]
  have hc := limF_ch (f := f) (t := t) hv hb
  have hl := limF_len (f := f) (t := t) (v := v) hb
  refine ⟨valid_of hc e.2, by split at hl <;> split at hl <;> omega, _, b, hb, hc, fun y => ?_⟩
  rcases limF_at (f := f) (t := t) (v := v) (y := y) (p := p) (fun s hs => (hb.ok s hs).2.1) with h | ⟨s, u, h1, h2, h3, h4⟩
  · exact .inl h
  · refine .inr ⟨s, u, h1, h2, h3, fun x => ?_⟩
    rw [h4]
    split
    · rename_i hc; constructor
      · intro h; exact ⟨by omega, fun _ _ => by omega⟩
      · rintro ⟨h, g⟩; have := g hc.1 hc.2; omega
    · rename_i hc; constructor
      · intro h; exact ⟨h, fun a b => absurd ⟨a, b⟩ hc⟩
      · exact fun h => h.1
theorem limL_dead {p : List Sgm} {f t v : Int} (hp : Valid p) (hv : 1 ≤ v) (h0 : p ≠ []) (hn : limL p f t v = []) : 128 < p.length + 2 := by
  obtain ⟨b, hb⟩ := ch_of hp
  have hl := limF_len (f := f) (t := t) (v := v) hb
  unfold limL at hn
  rw [if_pos ⟨validB_true.2 hp, hv⟩] at hn
  split at hn
  · have hc := limF_ch (f := f) (t := t) hv hb
    rw [hn] at hc
    have e : headF p = b := hc
    cases p with
    | nil => exact absurd rfl h0
    | cons s r =>
      have := hb.2.2.le
      have h1 := hb.2.1.2.1
      have h2 := hb.1
      omega
  · split at hl <;> split at hl <;> omega
/-- The parts of one restriction. -/
def CutF (els : List Elm) (r : Rst) (way : List Stp) (c : Int) (y x : Int) : Prop := ∀ k st, way[k]? = some st → st.el = r.el → partA els st (begF els way c k) r ≤ y → y < partZ els st (begF els way c k) r → x ≤ r.speed
theorem cutF_cons {els : List Elm} {r : Rst} {s : Stp} {ss : List Stp} {c y x : Int} : CutF els r (s :: ss) c y x ↔ (s.el = r.el → partA els s c r ≤ y → y < partZ els s c r → x ≤ r.speed) ∧ CutF els r ss (c + (elAt els s.el).len) y x := by
  constructor
  · intro h
    exact ⟨h 0 s rfl, fun k st hk => h (k + 1) st hk⟩
  · rintro ⟨h1, h2⟩ k st hk
    cases k with
    | zero => simp at hk; subst hk; exact h1
    | succ k => exact h2 k st hk
theorem lowF_low {els : List Elm} {r : Rst} (hr : 1 ≤ r.speed) : ∀ {way : List Stp} {c : Int} {p : List Sgm}, Valid p → lowF els r way c p ≠ [] → Valid (lowF els r way c p) ∧ LowTo (CutF els r way c) p (lowF els r way c p)
  | [], c, p, hp, _ => ⟨hp, (LowTo.refl hp).congr fun y x => ⟨fun _ k st hk => by simp at hk, fun _ => trivial⟩⟩
  | s :: ss, c, p, hp, hn => by
    have e : lowF els r (s :: ss) c p = lowF els r ss (c + (elAt els s.el).len) (if s.el = r.el then limL p (partA els s c r) (partZ els s c r) r.speed else p) := rfl
    rw [e] at hn ⊢
    by_cases he : s.el = r.el
    · rw [if_pos he] at hn ⊢
      have hm : limL p (partA els s c r) (partZ els s c r) r.speed ≠ [] := fun h => hn (by rw [h, lowF_nil])
      obtain ⟨v1, _, l1⟩ := limL_low hp hr hm
      obtain ⟨v2, l2⟩ := lowF_low hr v1 hn
      exact ⟨v2, (l1.trans hm l2).congr fun y x => by rw [cutF_cons]; simp [he]⟩
    · rw [if_neg he] at hn ⊢
      obtain ⟨v2, l2⟩ := lowF_low hr hp hn
      exact ⟨v2, l2.congr fun y x => by rw [cutF_cons]; simp [he]⟩
def CutAll (els : List Elm) (l : List Rst) (way : List Stp) (c : Int) (y x : Int) : Prop := ∀ r ∈ l, useR els r → CutF els r way c y x
theorem allF_low {els : List Elm} {way : List Stp} {c : Int} : ∀ {l : List Rst} {p : List Sgm}, Valid p → allF els way c l p ≠ [] → Valid (allF els way c l p) ∧ LowTo (CutAll els l way c) p (allF els way c l p)
  | [], p, hp, _ => ⟨hp, (LowTo.refl hp).congr fun y x => ⟨fun _ r hr => by simp at hr, fun _ => trivial⟩⟩
  | r :: l, p, hp, hn => by
    have e : allF els way c (r :: l) p = allF els way c l (if useR els r then lowF els r way c p else p) := rfl
    rw [e] at hn ⊢
    by_cases he : useR els r
    · rw [if_pos he] at hn ⊢
      have hm : lowF els r way c p ≠ [] := fun h => hn (by rw [h, allF_nil])
      obtain ⟨v1, l1⟩ := lowF_low (by have := he.2.2.2.2.2.2.2.2.1; omega) hp hm
      obtain ⟨v2, l2⟩ := allF_low v1 hn
      refine ⟨v2, (l1.trans hm l2).congr fun y x => ?_⟩
      constructor
      · rintro ⟨h1, h2⟩ r' hr' hu
        rcases List.mem_cons.1 hr' with rfl | hr'
        · exact h1
        · exact h2 r' hr' hu
      · exact fun h => ⟨h r (by simp) he, fun r' hr' hu => h r' (by simp [hr']) hu⟩
    · rw [if_neg he] at hn ⊢
      obtain ⟨v2, l2⟩ := allF_low hp hn
      refine ⟨v2, l2.congr fun y x => ?_⟩
      constructor
      · intro h2 r' hr' hu
        rcases List.mem_cons.1 hr' with rfl | hr'
        · exact absurd hu he
        · exact h2 r' hr' hu
      · exact fun h r' hr' hu => h r' (by simp [hr']) hu
/-- Each element once: at most one part. -/
theorem lowF_skip {els : List Elm} {r : Rst} : ∀ {way : List Stp} {c : Int} {p : List Sgm}, (∀ s ∈ way, s.el ≠ r.el) → lowF els r way c p = p
  | [], _, _, _ => rfl
  | s :: ss, c, p, h => by
    have e : lowF els r (s :: ss) c p = lowF els r ss (c + (elAt els s.el).len) (if s.el = r.el then limL p (partA els s c r) (partZ els s c r) r.speed else p) := rfl
    rw [e, if_neg (h s (by simp)), lowF_skip fun t ht => h t (by simp [ht])]
theorem lowF_once {els : List Elm} {r : Rst} : ∀ {way : List Stp} {c : Int} {p : List Sgm}, way.Pairwise (fun s t => s.el ≠ t.el) → lowF els r way c p = p ∨ ∃ f t, lowF els r way c p = limL p f t r.speed
  | [], _, _, _ => .inl rfl
  | s :: ss, c, p, h => by
    have e : lowF els r (s :: ss) c p = lowF els r ss (c + (elAt els s.el).len) (if s.el = r.el then limL p (partA els s c r) (partZ els s c r) r.speed else p) := rfl
    rw [List.pairwise_cons] at h
    rw [e]
    by_cases he : s.el = r.el
    · rw [if_pos he, lowF_skip fun t ht => he ▸ (h.1 t ht).symm]
      exact .inr ⟨_, _, rfl⟩
    · rw [if_neg he]; exact lowF_once h.2
theorem way_pair {els : List Elm} {jts : List Jnt} {way : List Stp} (h : Way els jts way) : way.Pairwise (fun s t => s.el ≠ t.el) := by
  rw [List.pairwise_iff_getElem]
  intro i j hi hj hij
  exact (h.2.2 j way[j] hj (List.getElem?_eq_getElem hj)).2.1 i way[i] hij (List.getElem?_eq_getElem hi)
theorem allF_len {els : List Elm} {way : List Stp} {c : Int} (hw : way.Pairwise (fun s t => s.el ≠ t.el)) : ∀ {l : List Rst} {p : List Sgm}, Valid p → p ≠ [] → allF els way c l p = [] → 128 < p.length + 2 * l.length
  | [], p, _, h0, h => absurd h h0
  | r :: l, p, hp, h0, h => by
    have e : allF els way c (r :: l) p = allF els way c l (if useR els r then lowF els r way c p else p) := rfl
    rw [e] at h
    rw [List.length_cons]
    by_cases he : useR els r
    · rw [if_pos he] at h
      have hr : 1 ≤ r.speed := by have := he.2.2.2.2.2.2.2.2.1; omega
      rcases lowF_once (els := els) (r := r) (c := c) (p := p) hw with e2 | ⟨f, t, e2⟩
      · rw [e2] at h
        have := allF_len hw hp h0 h; omega
      · rw [e2] at h
        by_cases hm : limL p f t r.speed = []
        · have := limL_dead hp hr h0 hm; omega
        · obtain ⟨v1, v2, _⟩ := limL_low hp hr hm
          have := allF_len hw v1 hm h; omega
    · rw [if_neg he] at h
      have := allF_len hw hp h0 h; omega
/-- Put, then set, removed. -/
theorem findIdx_mid {α : Type} {g : α → Bool} {l : List α} {x : α} {k : Nat} (hk : k ≤ l.length) (hn : ∀ y ∈ l, g y = false) (hx : g x = true) : (l.take k ++ [x] ++ l.drop k).findIdx? g = some k := by
  rw [List.findIdx?_eq_some_iff_getElem]
  have e : (l.take k).length = k := by rw [List.length_take]; omega
  refine ⟨by simp; omega, ?_, fun j hj => ?_⟩
  · rw [List.getElem_append_left (by simp; omega), List.getElem_append_right (by omega)]
    simp [hx]
  · rw [List.getElem_append_left (by simp; omega), List.getElem_append_left (by omega)]
    rw [hn _ (List.mem_of_mem_take (List.getElem_mem _))]; simp
theorem erase_mid {α : Type} {l : List α} {x : α} {k : Nat} (hk : k ≤ l.length) : (l.take k ++ [x] ++ l.drop k).eraseIdx k = l := by
  have e : (l.take k).length = k := by rw [List.length_take]; omega
  rw [List.append_assoc, List.eraseIdx_append_of_length_le (by omega), e, Nat.sub_self]
  simp
theorem set_mid {α : Type} {l : List α} {x y : α} {k : Nat} (hk : k ≤ l.length) : (l.take k ++ [x] ++ l.drop k).set k y = l.take k ++ [y] ++ l.drop k := by
  have e : (l.take k).length = k := by rw [List.length_take]; omega
  rw [List.append_assoc, List.set_append_right _ _ (by omega), e, Nat.sub_self]
  simp
theorem get_mid {α : Type} {l : List α} {x z : α} {k : Nat} (hk : k ≤ l.length) : (l.take k ++ [x] ++ l.drop k).getD k z = x := by
  have e : (l.take k).length = k := by rw [List.length_take]; omega
  rw [List.getD_eq_getElem?_getD, List.append_assoc, List.getElem?_append_right (by omega), e, Nat.sub_self]
  rfl
theorem putE_zero {els : List Elm} {l : List Rst} {r : Rst} (h : putE els l r = 0) : OkR els r ∧ idxR r.id l = none ∧ ¬ 16 ≤ l.length ∧ putL els l r = l.take (plcR r.id l) ++ [offR r] ++ l.drop (plcR r.id l) := by
  by_cases h1 : OkR els r
  · cases h2 : idxR r.id l with
    | some i => rw [(put_dup h1 h2).1] at h; cases h
    | none =>
      by_cases h3 : 16 ≤ l.length
      · rw [(put_full h1 h2 h3).1] at h; cases h
      · exact ⟨h1, rfl, h3, (put_ok h1 h2 h3).2⟩
  · rw [(put_bad h1).1] at h; cases h
theorem putL_ne {els : List Elm} {l : List Rst} {r : Rst} (h : putE els l r ≠ 0) : putL els l r = [] := by rw [putL, if_neg h]
def midR (l : List Rst) (r : Rst) : List Rst := l.take (plcR r.id l) ++ [r] ++ l.drop (plcR r.id l)
theorem mid_idx {l : List Rst} {r t : Rst} (h : idxR r.id l = none) (ht : t.id = r.id) : idxR r.id (l.take (plcR r.id l) ++ [t] ++ l.drop (plcR r.id l)) = some (plcR r.id l) := by
  refine findIdx_mid (plcR_le _ _) (fun y hy => ?_) (by unfold hitR; simp [ht])
  obtain ⟨j, hj, rfl⟩ := List.getElem_of_mem hy
  exact idxR_no h j _ (List.getElem?_eq_getElem hj)
theorem passes {els : List Elm} {l : List Rst} {r : Rst} (h : putE els l r = 0) :
    setE (putL els l r) r.id true = 0 ∧ setL (putL els l r) r.id true = midR l (onR r) ∧ setE (midR l (onR r)) r.id true = 11 ∧ setE (midR l (onR r)) r.id false = 0 ∧ setL (midR l (onR r)) r.id false = l ∧ setE l r.id false = 9 ∧ setE (putL els l r) r.id false = 0 ∧ setL (putL els l r) r.id false = l := by
  obtain ⟨h1, h2, h3, h4⟩ := putE_zero h
  have hp := plcR_le r.id l
  have i1 : idxR r.id (putL els l r) = some (plcR r.id l) := by rw [h4]; exact mid_idx h2 rfl
  have i2 : idxR r.id (midR l (onR r)) = some (plcR r.id l) := mid_idx (t := onR r) h2 rfl
  have g1 : (putL els l r).getD (plcR r.id l) Rst.z = offR r := by rw [h4]; exact get_mid hp
  have g2 : (midR l (onR r)).getD (plcR r.id l) Rst.z = onR r := get_mid hp
  refine ⟨?_, ?_, ?_, ?_, ?_, ?_, ?_, ?_⟩
  · unfold setE; rw [i1]; simp only []; rw [g1]; simp [offR]
  · unfold setL; rw [i1]; simp only []; rw [g1, if_pos trivial, if_neg (by simp [offR]), h4, set_mid hp]; rfl
  · unfold setE; rw [i2]; simp only []; rw [g2]; simp [onR]
  · unfold setE; rw [i2]; simp
  · unfold setL; rw [i2]; simp only []; rw [if_neg (by simp)]; exact erase_mid hp
  · unfold setE; rw [h2]
  · unfold setE; rw [i1]; simp
  · unfold setL; rw [i1]; simp only []; rw [if_neg (by simp), h4]; exact erase_mid hp
theorem allF_idle {els : List Elm} {way : List Stp} {c : Int} {a b : List Rst} {r : Rst} {p : List Sgm} (hr : ¬ useR els r) : allF els way c (a ++ [r] ++ b) p = allF els way c (a ++ b) p := by
  rw [allF_append, allF_append, allF_append]
  show allF els way c b (if useR els r then _ else _) = _
  rw [if_neg hr]
theorem put_idle {els : List Elm} {way : List Stp} {c : Int} {l : List Rst} {r : Rst} {p : List Sgm} (h : putE els l r = 0) : allF els way c (putL els l r) p = allF els way c l p := by
  rw [(putE_zero h).2.2.2, allF_idle (fun hu => by have := hu.1; simp [offR] at this), List.take_append_drop]
theorem leastL_le : ∀ {l : List Int} {x : Int}, x ∈ l → leastL l ≤ x := by
  intro l x hx
  obtain ⟨n, hn⟩ : ∃ n, l.length = n := ⟨_, rfl⟩
  induction n generalizing l x with
  | zero => have := List.length_eq_zero_iff.1 hn; subst this; cases hx
  | succ n ih =>
    have hne : l ≠ [] := by rintro rfl; cases hx
    obtain ⟨k, v, rfl⟩ : ∃ k v, l = k ++ [v] := ⟨l.dropLast, l.getLast hne, (List.dropLast_concat_getLast hne).symm⟩
    rw [leastL_snoc]
    split
    · rename_i h; subst h; simp at hx; omega
    · rcases List.mem_append.1 hx with h | h
      · have := ih h (by simpa using hn); omega
      · simp at h; omega
theorem slow_le {q : List Sgm} {f t y : Int} {u : Sgm} (hv : Valid q) (hu : q.find? (hitB y) = some u) (h1 : f ≤ y) (h2 : y ≤ t) : slowV q f t ≤ u.speed := by
  have hm := List.mem_of_find?_eq_some hu
  have hh := hb0.1 (List.find?_some hu)
  unfold slowV touL
  rw [if_pos (validB_true.2 hv)]
  apply leastL_le
  refine List.mem_map.2 ⟨u, List.mem_filter.2 ⟨hm, ?_⟩, rfl⟩
  unfold touchB
  simp only [Bool.and_eq_true, decide_eq_true_iff]
  omega
/-- The way over one element, its profile, and the restriction that is in force there. -/
theorem seg_one {n : Int} (h : 1 ≤ n) (h' : n ≤ 1073741824) : Valid [⟨0, n, 0, 10000⟩] := by
  refine valid_of (a := 0) (b := n) ⟨rfl, ?_, rfl⟩ (by simp)
  unfold SegOk; simp; omega
theorem pass_slow {els : List Elm} {l : List Rst} {r : Rst} {n : Int} (hr : OkR els r) (hn : (elAt els r.el).len = n) (h1 : 1 ≤ n) (h' : n ≤ 1073741824) (h0 : allF els [⟨r.el, 0, 1⟩] 0 (midR l (onR r)) [⟨0, n, 0, 10000⟩] ≠ []) :
    slowV (allF els [⟨r.el, 0, 1⟩] 0 (midR l (onR r)) [⟨0, n, 0, 10000⟩]) r.from_ (r.to_ - 1) ≤ r.speed := by
  obtain ⟨v1, a, b, _, _, h3⟩ := allF_low (seg_one h1 h') h0
  have hr' := hr
  obtain ⟨_, _, _, _, k5, k6, k7, _, _⟩ := hr'
  rw [hn] at k7
  rcases h3 r.from_ with ⟨g, _⟩ | ⟨s, u, g1, g2, _, g4⟩
  · have : hitB r.from_ ⟨0, n, 0, 10000⟩ = true := hb0.2 ⟨k5, by show r.from_ < n; omega⟩
    simp [List.find?_cons, this] at g
  · have h5 := slow_le v1 g2 (f := r.from_) (t := r.to_ - 1) (by omega) (by omega)
    have h6 := ((g4 u.speed).1 (Int.le_refl _)).2 (onR r) (by simp [midR]) ⟨rfl, hr⟩ 0 _ rfl rfl
    have e1 : partA els ⟨r.el, 0, 1⟩ (begF els [⟨r.el, 0, 1⟩] 0 0) (onR r) = r.from_ := by simp [partA, fwdS, begF, onR]
    have e2 : partZ els ⟨r.el, 0, 1⟩ (begF els [⟨r.el, 0, 1⟩] 0 0) (onR r) = r.to_ := by simp [partZ, fwdS, begF, onR]
    rw [e1, e2] at h6
    have := h6 (by omega) k6
    have e3 : (onR r).speed = r.speed := rfl
    omega
/-- The greatest speed that restrictions permit at a coordinate. -/
def cutB (els : List Elm) (st : Stp) (c y : Int) (r : Rst) : Prop := useR els r ∧ r.el = st.el ∧ partA els st c r ≤ y ∧ y < partZ els st c r
instance (els : List Elm) (st : Stp) (c y : Int) (r : Rst) : Decidable (cutB els st c y r) := by unfold cutB; infer_instance
def alS (els : List Elm) (st : Stp) (c y : Int) : List Rst → Int → Int
  | [], v => v
  | r :: l, v => alS els st c y l (if cutB els st c y r then min v r.speed else v)
theorem alS_append (els : List Elm) (st : Stp) (c y : Int) : ∀ (a b : List Rst) (v : Int), alS els st c y (a ++ b) v = alS els st c y b (alS els st c y a v)
  | [], b, v => rfl
  | r :: a, b, v => alS_append els st c y a b (if cutB els st c y r then min v r.speed else v)
theorem alS_take {els : List Elm} {st : Stp} {c y v : Int} {l : List Rst} {k : Nat} {r : Rst} (h : l[k]? = some r) : alS els st c y (l.take (k + 1)) v = if cutB els st c y r then min (alS els st c y (l.take k) v) r.speed else alS els st c y (l.take k) v := by
  obtain ⟨hl, rfl⟩ := List.getElem?_eq_some_iff.1 h
  rw [List.take_succ_eq_append_getElem hl, alS_append]
  rfl
theorem alS_le {els : List Elm} {st : Stp} {c y x : Int} : ∀ {l : List Rst} {v : Int}, x ≤ alS els st c y l v ↔ x ≤ v ∧ ∀ r ∈ l, cutB els st c y r → x ≤ r.speed
  | [], v => by simp [alS]
  | r :: l, v => by
    show x ≤ alS els st c y l (if cutB els st c y r then min v r.speed else v) ↔ _
    rw [alS_le]
    by_cases h : cutB els st c y r
    · rw [if_pos h]
      constructor
      · rintro ⟨h1, h2⟩
        refine ⟨by omega, fun t ht hc => ?_⟩
        rcases List.mem_cons.1 ht with rfl | ht
        · omega
        · exact h2 t ht hc
      · rintro ⟨h1, h2⟩
        have := h2 r (by simp) h
        exact ⟨by omega, fun t ht hc => h2 t (by simp [ht]) hc⟩
    · rw [if_neg h]
      constructor
      · rintro ⟨h1, h2⟩
        refine ⟨h1, fun t ht hc => ?_⟩
        rcases List.mem_cons.1 ht with rfl | ht
        · exact absurd hc h
        · exact h2 t ht hc
      · rintro ⟨h1, h2⟩
        exact ⟨h1, fun t ht hc => h2 t (by simp [ht]) hc⟩
def alW (els : List Elm) (l : List Rst) (y : Int) : List Stp → Int → Int → Int
  | [], _, v => v
  | s :: ss, c, v => alW els l y ss (c + (elAt els s.el).len) (alS els s c y l v)
theorem alW_append (els : List Elm) (l : List Rst) (y : Int) : ∀ (a b : List Stp) (c v : Int), alW els l y (a ++ b) c v = alW els l y b (a.foldl (fun a s => a + (elAt els s.el).len) c) (alW els l y a c v)
  | [], b, c, v => rfl
  | s :: a, b, c, v => alW_append els l y a b (c + (elAt els s.el).len) (alS els s c y l v)
def alTo (els : List Elm) (l : List Rst) (y : Int) (way : List Stp) (c : Int) (k : Nat) : Int := alW els l y (way.take k) c 10000
theorem alTo_succ {els : List Elm} {l : List Rst} {y : Int} {way : List Stp} {c : Int} {k : Nat} {s : Stp} (h : way[k]? = some s) : alTo els l y way c (k + 1) = alS els s (begF els way c k) y l (alTo els l y way c k) := by
  obtain ⟨hl, rfl⟩ := List.getElem?_eq_some_iff.1 h
  unfold alTo
  rw [List.take_succ_eq_append_getElem hl, alW_append]
  rfl
theorem alW_le {els : List Elm} {l : List Rst} {y x : Int} : ∀ {way : List Stp} {c v : Int}, x ≤ alW els l y way c v ↔ x ≤ v ∧ CutAll els l way c y x
  | [], c, v => by
    show x ≤ v ↔ _
    exact ⟨fun h => ⟨h, fun r _ _ k st hk => by simp at hk⟩, fun h => h.1⟩
  | s :: ss, c, v => by
    show x ≤ alW els l y ss (c + (elAt els s.el).len) (alS els s c y l v) ↔ _
    rw [alW_le, alS_le]
    constructor
    · rintro ⟨⟨h1, h2⟩, h3⟩
      exact ⟨h1, fun r hr hu => cutF_cons.2 ⟨fun g1 g2 g3 => h2 r hr ⟨hu, g1.symm, g2, g3⟩, h3 r hr hu⟩⟩
    · rintro ⟨h1, h2⟩
      refine ⟨⟨h1, fun r hr hc => ?_⟩, fun r hr hu => (cutF_cons.1 (h2 r hr hu)).2⟩
      exact (cutF_cons.1 (h2 r hr hc.1)).1 hc.2.1.symm hc.2.2.1 hc.2.2.2
def alV (els : List Elm) (l : List Rst) (y : Int) (way : List Stp) (c : Int) : Int := alTo els l y way c way.length
theorem alV_le {els : List Elm} {l : List Rst} {y x : Int} {way : List Stp} {c : Int} : x ≤ alV els l y way c ↔ x ≤ 10000 ∧ CutAll els l way c y x := by
  unfold alV alTo
  rw [List.take_length, alW_le]
theorem ch_last : ∀ {p : List Sgm} {a b : Int}, Ch a p b → p ≠ [] → (p.getD (p.length - 1) Sgm.z).to_ = b
  | [], _, _, _, h => absurd rfl h
  | [s], a, b, ⟨_, _, h3⟩, _ => h3
  | s :: t :: r, a, b, ⟨_, _, h3⟩, _ => by
    have := ch_last h3 (by simp)
    simpa using this
theorem ch_hit : ∀ {p : List Sgm} {a b y : Int}, Ch a p b → a ≤ y → y < b → p.find? (hitB y) ≠ none
  | [], a, b, y, h, h1, h2 => by have : a = b := h; omega
  | s :: r, a, b, y, ⟨h1, h2, h3⟩, g1, g2 => by
    rw [List.find?_cons]
    split
    · simp
    · rename_i hn
      rw [bf, hb0] at hn
      exact ch_hit h3 (by omega) g2
theorem ch_mem : ∀ {p : List Sgm} {a b : Int}, Ch a p b → ∀ s ∈ p, a ≤ s.from_ ∧ s.from_ < s.to_ ∧ s.to_ ≤ b
  | [], _, _, _, s, h => by cases h
  | t :: r, a, b, ⟨h1, h2, h3⟩, s, h => by
    have := h3.le
    have h4 := h2.2.1
    rcases List.mem_cons.1 h with rfl | h
    · omega
    · have := ch_mem h3 s h; omega
/-- What RestrictionLowers says at a place: a segment's beginning or its last coordinate. -/
theorem lowers_at {els : List Elm} {way : List Stp} {c y : Int} {l : List Rst} {p g : List Sgm} {s0 : Sgm} (hp : Valid p) (hn : allF els way c l p ≠ []) (hg : g = p ∨ g = allF els way c l p) (hs : s0 ∈ g) (hy : y = s0.from_ ∨ y = s0.to_ - 1) :
    ∃ s u, atO p y = some s ∧ atO (allF els way c l p) y = some u ∧ u.grade = s.grade ∧ u.speed = min s.speed (alV els l y way c) := by
  obtain ⟨v1, a, b, k1, k2, h3⟩ := allF_low hp hn
  have hm : a ≤ y ∧ y < b := by
    have : a ≤ s0.from_ ∧ s0.from_ < s0.to_ ∧ s0.to_ ≤ b := by
      rcases hg with rfl | rfl
      · exact ch_mem k1 s0 hs
      · exact ch_mem k2 s0 hs
    omega
  rcases h3 y with ⟨g1, _⟩ | ⟨s, u, g1, g2, g3, g4⟩
  · exact absurd g1 (ch_hit k1 hm.1 hm.2)
  · refine ⟨s, u, by rw [atO, if_pos (validB_true.2 hp), g1], by rw [atO, if_pos (validB_true.2 v1), g2], g3, ?_⟩
    have hs1 : s.speed ≤ 10000 := (k1.ok s (List.mem_of_find?_eq_some g1)).2.2.2.2.2.2
    have e1 : u.speed ≤ min s.speed (alV els l y way c) := by
      have := (g4 u.speed).1 (Int.le_refl _)
      have := (alV_le (els := els) (l := l) (y := y) (x := u.speed) (way := way) (c := c)).2 ⟨by omega, this.2⟩
      omega
    have e2 : min s.speed (alV els l y way c) ≤ u.speed := (g4 _).2 ⟨by omega, (alV_le.1 (Int.min_le_right s.speed (alV els l y way c))).2⟩
    omega
theorem lowers_ends {els : List Elm} {way : List Stp} {c : Int} {l : List Rst} {p : List Sgm} (hp : Valid p) (hn : allF els way c l p ≠ []) :
    Valid (allF els way c l p) ∧ p ≠ [] ∧ ((allF els way c l p).getD 0 Sgm.z).from_ = (p.getD 0 Sgm.z).from_ ∧ ((allF els way c l p).getD ((allF els way c l p).length - 1) Sgm.z).to_ = (p.getD (p.length - 1) Sgm.z).to_ := by
  obtain ⟨v1, a, b, k1, k2, _⟩ := allF_low hp hn
  have h0 : p ≠ [] := fun h => hn (by rw [h, allF_nil])
  refine ⟨v1, h0, ?_, by rw [ch_last k1 h0, ch_last k2 hn]⟩
  have f1 := (k1.validTo 0 (List.length_pos_iff.2 h0)).2.2 rfl
  have f2 := (k2.validTo 0 (List.length_pos_iff.2 hn)).2.2 rfl
  rw [f1, f2]
end Sg
