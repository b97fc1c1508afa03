/- Plain mathematics of the library's stable merge of passed balises. No program in sight. -/
import Derived.Test.YticonpjkcocgeaaDoorPAll
set_option linter.unusedVariables false
set_option linter.unusedSimpArgs false
open Go.Sort
namespace Sg

theorem Pas.eq' {a b : Pas} (h1 : a.place = b.place) (h2 : a.id = b.id) : a = b := by cases a; cases b; simp_all
theorem befP_anti {a b : Pas} (h1 : befP a b = false) (h2 : befP b a = false) : a = b := by
  rw [befP_false] at h1 h2
  exact Pas.eq' (by omega) (by omega)
theorem befP_asym {a b : Pas} (h : befP a b = true) : befP b a = false := by
  rw [befP_true] at h; rw [befP_false]; omega
/-- a ≤ b ≤ c. -/
theorem leP_trans {a b c : Pas} (h1 : befP b a = false) (h2 : befP c b = false) : befP c a = false := by
  rw [befP_false] at h1 h2 ⊢; omega
theorem leP_refl (a : Pas) : befP a a = false := by rw [befP_false]; omega
/-- A sorted list is known by what is in it. -/
theorem sortedP_uniq : ∀ {l m : List Pas}, SortedP l → SortedP m → l.Perm m → l = m
  | [], m, _, _, h => by rw [List.nil_perm.1 h]
  | x :: xs, [], _, _, h => by have := h.length_eq; simp at this
  | x :: xs, y :: ys, h1, h2, h => by
    obtain ⟨p1, p2⟩ := List.pairwise_cons.1 h1
    obtain ⟨q1, q2⟩ := List.pairwise_cons.1 h2
    have e : x = y := by
      rcases List.mem_cons.1 (h.subset (List.mem_cons_self)) with e | hx
      · exact e
      · rcases List.mem_cons.1 (h.symm.subset (List.mem_cons_self)) with e | hy
        · exact e.symm
        · exact befP_anti (q1 x hx) (p1 y hy)
    subst e
    rw [sortedP_uniq p2 q2 (List.Perm.cons_inv h)]
theorem sortP_is {l z : List Pas} (h1 : SortedP z) (h2 : z.Perm l) : z = sortP l := sortedP_uniq h1 (sortP_sorted l) (h2.trans (sortP_perm l).symm)
theorem sortP_id {l : List Pas} (h : SortedP l) : sortP l = l := (sortP_is h (List.Perm.refl _)).symm
theorem sortP_congr {l m : List Pas} (h : l.Perm m) : sortP l = sortP m := sortP_is (sortP_sorted l) ((sortP_perm l).trans h)
theorem SortedP.left {a b : List Pas} (h : SortedP (a ++ b)) : SortedP a := (List.pairwise_append.1 h).1
theorem SortedP.right {a b : List Pas} (h : SortedP (a ++ b)) : SortedP b := (List.pairwise_append.1 h).2.1
theorem SortedP.cross {a b : List Pas} (h : SortedP (a ++ b)) {u v : Pas} (hu : u ∈ a) (hv : v ∈ b) : befP v u = false := (List.pairwise_append.1 h).2.2 u hu v hv
theorem SortedP.get {l : List Pas} (h : SortedP l) {i j : Nat} {x y : Pas} (hij : i ≤ j) (hx : l[i]? = some x) (hy : l[j]? = some y) : befP y x = false := by
  rcases Nat.lt_or_ge i j with hlt | hge
  · obtain ⟨h1, rfl⟩ := List.getElem?_eq_some_iff.1 hx
    obtain ⟨h2, rfl⟩ := List.getElem?_eq_some_iff.1 hy
    exact List.pairwise_iff_getElem.1 h i j h1 h2 hlt
  · have e : i = j := by omega
    subst e
    rw [hx] at hy; cases hy
    exact leP_refl _
/-- The one element goes to its place among the others. -/
theorem mrg_left {x : Pas} {Y1 Y2 : List Pas} (hY : SortedP (Y1 ++ Y2)) (h1 : ∀ y ∈ Y1, befP y x = true) (h2 : ∀ y ∈ Y2, befP y x = false) : Y1 ++ x :: Y2 = sortP (x :: (Y1 ++ Y2)) := by
  refine sortP_is ?_ List.perm_middle
  refine List.pairwise_append.2 ⟨hY.left, List.pairwise_cons.2 ⟨fun b hb => h2 b hb, hY.right⟩, fun a ha b hb => ?_⟩
  rcases List.mem_cons.1 hb with rfl | hb
  · exact befP_asym (h1 a ha)
  · exact hY.cross ha hb
theorem mrg_right {y : Pas} {X1 X2 : List Pas} (hX : SortedP (X1 ++ X2)) (h1 : ∀ x ∈ X1, befP y x = false) (h2 : ∀ x ∈ X2, befP y x = true) : X1 ++ y :: X2 = sortP ((X1 ++ X2) ++ [y]) := by
  refine sortP_is ?_ (List.perm_middle.trans (List.perm_append_singleton y (X1 ++ X2)).symm)
  refine List.pairwise_append.2 ⟨hX.left, List.pairwise_cons.2 ⟨fun b hb => befP_asym (h2 b hb), hX.right⟩, fun a ha b hb => ?_⟩
  rcases List.mem_cons.1 hb with rfl | hb
  · exact h1 a ha
  · exact hX.cross ha hb
/-- The merge of two halves. -/
theorem mrg_split {X1 X2 Y1 Y2 : List Pas} (hX : SortedP (X1 ++ X2)) (hY : SortedP (Y1 ++ Y2)) (h1 : ∀ u ∈ X1, ∀ v ∈ Y2, befP v u = false) (h2 : ∀ u ∈ Y1, ∀ v ∈ X2, befP v u = false) : sortP (X1 ++ Y1) ++ sortP (X2 ++ Y2) = sortP ((X1 ++ X2) ++ (Y1 ++ Y2)) := by
  refine sortP_is ?_ ?_
  · refine List.pairwise_append.2 ⟨sortP_sorted _, sortP_sorted _, fun u hu v hv => ?_⟩
    have hu' := (sortP_perm _).subset hu
    have hv' := (sortP_perm _).subset hv
    rcases List.mem_append.1 hu' with hu' | hu' <;> rcases List.mem_append.1 hv' with hv' | hv'
    · exact hX.cross hu' hv'
    · exact h1 u hu' v hv'
    · exact h2 u hu' v hv'
    · exact hY.cross hu' hv'
  · refine ((sortP_perm _).append (sortP_perm _)).trans ?_
    simp only [List.append_assoc]
    refine List.Perm.append_left X1 ?_
    rw [← List.append_assoc, ← List.append_assoc]
    exact List.Perm.append_right Y2 (List.perm_append_comm)
/-! ### Insertion in a part of a list -/
theorem insInner_at (o : Pas) : ∀ (n : Nat) (P A R : List Pas), A.length = n → SortedP A → insInner befP P.length (P.length + n) (P ++ (A ++ o :: R)).toArray = (P ++ (insP o A ++ R)).toArray
  | 0, P, A, R, hA, _ => by
    obtain rfl := List.length_eq_zero_iff.1 hA
    cases hp : P.length with
    | zero => rfl
    | succ p =>
      show insInner befP (p + 1) (p + 1) _ = _
      unfold insInner
      rw [if_neg (by simp)]; rfl
  | n + 1, P, A, R, hA, hs => by
    obtain ⟨B, x, rfl⟩ : ∃ B x, A = B ++ [x] := ⟨A.dropLast, A.getLast (by intro h; subst h; simp at hA), (List.dropLast_concat_getLast _).symm⟩
    have hB : B.length = n := by simpa using hA
    obtain ⟨hs1, _, hs2⟩ := List.pairwise_append.1 hs
    have e0 : P ++ (B ++ [x] ++ o :: R) = (P ++ B) ++ x :: o :: R := by simp
    have hl : (P ++ B).length = P.length + n := by rw [List.length_append, hB]
    have e1 : (P ++ (B ++ [x] ++ o :: R)).toArray[P.length + n + 1]! = o := get_arrP (by rw [e0, List.getElem?_append_right (by omega)]; simp [hl])
    have e2 : (P ++ (B ++ [x] ++ o :: R)).toArray[P.length + n]! = x := get_arrP (by rw [e0, List.getElem?_append_right (by omega)]; simp [hl])
    rw [show P.length + (n + 1) = P.length + n + 1 from rfl]
    unfold insInner
    rw [e1, e2]
    by_cases hb : befP o x = true
    · have hsw := swp_midP (P ++ B) R x o
      rw [hl] at hsw
      rw [if_pos (by simp [hb]; omega), e0, hsw, show (P ++ B) ++ o :: x :: R = P ++ (B ++ o :: (x :: R)) by simp, insInner_at o n P B (x :: R) hB hs1, insP_snoc hb]
      simp
    · rw [if_neg (by simp [hb])]
      rw [Bool.not_eq_true] at hb
      rw [insP_last (l := B ++ [x])]
      · simp
      · intro a ha
        rcases List.mem_append.1 ha with ha | ha
        · have := hs2 a ha x (by simp)
          rw [befP_false] at this hb ⊢; omega
        · simp at ha; subst ha; exact hb
theorem insOuter_at (P S l : List Pas) : ∀ (g i : Nat), l.length - i = g → i ≤ l.length → insOuter befP P.length (P.length + l.length) (P.length + i) (P ++ (sortP (l.take i) ++ (l.drop i ++ S))).toArray = (P ++ (sortP l ++ S)).toArray
  | 0, i, hg, hi => by
    have : i = l.length := by omega
    subst this
    unfold insOuter
    simp
  | g + 1, i, hg, hi => by
    have hlt : i < l.length := by omega
    obtain ⟨o, ho⟩ : ∃ o, l[i]? = some o := ⟨_, List.getElem?_eq_getElem hlt⟩
    obtain ⟨hl, he⟩ := List.getElem?_eq_some_iff.1 ho
    have hd : l.drop i = o :: l.drop (i + 1) := by rw [List.drop_eq_getElem_cons hl, he]
    have ht : l.take (i + 1) = l.take i ++ [o] := by rw [List.take_succ_eq_append_getElem hl, he]
    have hlen : (sortP (l.take i)).length = i := by rw [sortP_len, List.length_take]; omega
    unfold insOuter
    rw [if_pos (by omega), hd, List.cons_append, insInner_at o i P _ (l.drop (i + 1) ++ S) hlen (sortP_sorted _), ← sortP_snoc, ← ht]
    exact insOuter_at P S l g (i + 1) (by omega) (by omega)
/-- The insertion sort of a part. -/
theorem insertionSort_at (P l S : List Pas) : Go.Sort.insertionSort befP (P ++ (l ++ S)).toArray P.length (P.length + l.length) = (P ++ (sortP l ++ S)).toArray := by
  unfold Go.Sort.insertionSort
  by_cases h : l.length = 0
  · obtain rfl := List.length_eq_zero_iff.1 h
    unfold insOuter
    rw [if_neg (by simp)]; rfl
  · have := insOuter_at P S l (l.length - 1) 1 rfl (by omega)
    have e : sortP (l.take 1) ++ (l.drop 1 ++ S) = l ++ S := by
      cases l with
      | nil => simp at h
      | cons x xs => simp [sortP, insP]
    rw [e] at this
    exact this
/-! ### Ranges that are swapped -/
/-- m is l, but that the first i places from a on and from b on are swapped. -/
structure Swp (l : List Pas) (a b i : Nat) (m : List Pas) : Prop where
  len : m.length = l.length
  get : ∀ k, m[k]? = if a ≤ k ∧ k < a + i then l[k - a + b]? else if b ≤ k ∧ k < b + i then l[k - b + a]? else l[k]?
theorem Swp.zero (l : List Pas) (a b : Nat) : Swp l a b 0 l := ⟨rfl, fun k => by rw [if_neg (by omega), if_neg (by omega)]⟩
theorem Swp.step {l m : List Pas} {a b i : Nat} (h : Swp l a b i m) (hab : a + i < b) (hb : b + i < l.length) {x y : Pas} (hx : m[a + i]? = some x) (hy : m[b + i]? = some y) : Swp l a b (i + 1) ((m.set (a + i) y).set (b + i) x) := by
  have h1 := h.get (a + i)
  have h2 := h.get (b + i)
  rw [if_neg (by omega), if_neg (by omega), hx] at h1
  rw [if_neg (by omega), if_neg (by omega), hy] at h2
  have hl := h.len
  refine ⟨by simp [hl], fun k => ?_⟩
  by_cases e1 : k = b + i
  · subst e1
    rw [List.getElem?_set_self (by simp; omega), if_neg (by omega), if_pos (by omega), show b + i - b + a = a + i by omega, ← h1]
  · rw [List.getElem?_set_ne (fun e => e1 e.symm)]
    by_cases e2 : k = a + i
    · subst e2
      rw [List.getElem?_set_self (by omega), if_pos (by omega), show a + i - a + b = b + i by omega, ← h2]
    · rw [List.getElem?_set_ne (fun e => e2 e.symm), h.get k]
      by_cases c1 : a ≤ k ∧ k < a + i
      · rw [if_pos c1, if_pos (by omega)]
      · rw [if_neg c1, if_neg (show ¬ (a ≤ k ∧ k < a + (i + 1)) by omega)]
        by_cases c2 : b ≤ k ∧ k < b + i
        · rw [if_pos c2, if_pos (by omega)]
        · rw [if_neg c2, if_neg (by omega)]
/-- The outcome, written out. -/
theorem Swp.parts {A X M Y B m : List Pas} (hxy : X.length = Y.length) (h : Swp (A ++ (X ++ (M ++ (Y ++ B)))) A.length (A.length + X.length + M.length) X.length m) : m = A ++ (Y ++ (M ++ (X ++ B))) := by
  refine List.ext_getElem? fun k => ?_
  rw [h.get k]
  by_cases c1 : k < A.length
  · rw [if_neg (by omega), if_neg (by omega), List.getElem?_append_left c1, List.getElem?_append_left c1]
  rw [List.getElem?_append_right (l₁ := A) (l₂ := Y ++ (M ++ (X ++ B))) (by omega)]
  by_cases c2 : k < A.length + X.length
  · rw [if_pos (by omega), List.getElem?_append_right (by omega), List.getElem?_append_right (by omega), List.getElem?_append_right (by omega), List.getElem?_append_left (by omega), List.getElem?_append_left (by omega)]
    congr 1; omega
  rw [if_neg (by omega), List.getElem?_append_right (l₁ := Y) (by omega)]
  by_cases c3 : k < A.length + X.length + M.length
  · rw [if_neg (by omega), List.getElem?_append_right (by omega), List.getElem?_append_right (by omega), List.getElem?_append_left (by omega), List.getElem?_append_left (by omega)]
    congr 1; omega
  rw [List.getElem?_append_right (l₁ := M) (by omega)]
  by_cases c4 : k < A.length + X.length + M.length + X.length
  · rw [if_pos (by omega), List.getElem?_append_right (l₁ := A) (by omega), List.getElem?_append_left (l₁ := X) (by omega), List.getElem?_append_left (l₁ := X) (by omega)]
    congr 1; omega
  · rw [if_neg (by omega), List.getElem?_append_right (l₁ := A) (by omega), List.getElem?_append_right (l₁ := X) (by omega), List.getElem?_append_right (l₁ := M) (by omega), List.getElem?_append_right (l₁ := Y) (by omega), List.getElem?_append_right (l₁ := X) (by omega)]
    congr 1; omega
end Sg
