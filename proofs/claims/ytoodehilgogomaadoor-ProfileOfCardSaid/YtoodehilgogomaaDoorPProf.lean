/- Plain mathematics of profiles. No program in sight. -/
import Derived.Test.YtoodehilgogomaaDoorPNum
set_option linter.unusedVariables false
set_option linter.unusedSimpArgs false
namespace Sg

/-- A segment. -/
structure Sgm where
  from_ : Int
  to_ : Int
  grade : Int
  speed : Int
def Sgm.z : Sgm := ⟨0, 0, 0, 0⟩
theorem Sgm.eq {a b : Sgm} (h1 : a.from_ = b.from_) (h2 : a.to_ = b.to_) (h3 : a.grade = b.grade) (h4 : a.speed = b.speed) : a = b := by
  cases a; cases b; simp_all
def sgmB (a b : Sgm) : Bool := a.from_ == b.from_ && (a.to_ == b.to_ && (a.grade == b.grade && a.speed == b.speed))
theorem sgmB_true {a b : Sgm} : sgmB a b = true ↔ a = b := by
  unfold sgmB
  simp only [Bool.and_eq_true, beq_iff_eq]
  exact ⟨fun ⟨h1, h2, h3, h4⟩ => Sgm.eq h1 h2 h3 h4, fun h => by subst h; simp⟩
def SegOk (s : Sgm) : Prop := -1073741824 ≤ s.from_ ∧ s.from_ < s.to_ ∧ s.to_ ≤ 1073741824 ∧ -50 ≤ s.grade ∧ s.grade ≤ 50 ∧ 1 ≤ s.speed ∧ s.speed ≤ 10000
def LinkOk (p : List Sgm) (i : Nat) : Prop := i = 0 ∨ (p.getD i Sgm.z).from_ = (p.getD (i - 1) Sgm.z).to_
def ValidTo (p : List Sgm) (k : Nat) : Prop := ∀ i, i < k → SegOk (p.getD i Sgm.z) ∧ LinkOk p i
def Valid (p : List Sgm) : Prop := p.length ≤ 128 ∧ ValidTo p p.length
open Classical in
noncomputable def validB (p : List Sgm) : Bool := decide (Valid p)
theorem validB_true {p : List Sgm} : validB p = true ↔ Valid p := by simp [validB]
theorem validB_false {p : List Sgm} : validB p = false ↔ ¬ Valid p := by simp [validB]
theorem validTo_zero (p : List Sgm) : ValidTo p 0 := fun i h => absurd h (by omega)
theorem validTo_succ {p : List Sgm} {k : Nat} (h : ValidTo p k) (h1 : SegOk (p.getD k Sgm.z)) (h2 : LinkOk p k) : ValidTo p (k + 1) := fun i hi => by
  by_cases e : i = k
  · subst e; exact ⟨h1, h2⟩
  · exact h i (by omega)
theorem not_valid {p : List Sgm} {k : Nat} (hk : k < p.length) (h : ¬ (SegOk (p.getD k Sgm.z) ∧ LinkOk p k)) : ¬ Valid p := fun hv => h (hv.2 k hk)
theorem getD_of {p : List Sgm} {k : Nat} {s : Sgm} (h : p[k]? = some s) : p.getD k Sgm.z = s := by rw [List.getD_eq_getElem?_getD, h]; rfl

/-- The segment at a coordinate. -/
def hitB (x : Int) (s : Sgm) : Bool := decide (s.from_ ≤ x) && decide (x < s.to_)
open Classical in
noncomputable def atO (p : List Sgm) (x : Int) : Option Sgm := if validB p = true then p.find? (hitB x) else none
noncomputable def atS (p : List Sgm) (x : Int) : Sgm := (atO p x).getD Sgm.z
noncomputable def atB (p : List Sgm) (x : Int) : Bool := (atO p x).isSome
theorem atO_hit {p : List Sgm} {x : Int} {k : Nat} {s : Sgm} (hv : validB p = true) (hk : p[k]? = some s) (hn : ∀ j t, j < k → p[j]? = some t → hitB x t = false) (h : hitB x s = true) : atO p x = some s := by
  rw [atO, if_pos hv, List.find?_eq_some_iff_append]
  refine ⟨h, p.take k, p.drop (k + 1), ?_, fun t ht => ?_⟩
  · have hk' := List.getElem?_eq_some_iff.1 hk
    obtain ⟨hl, rfl⟩ := hk'
    rw [List.getElem_cons_drop hl, List.take_append_drop]
  · obtain ⟨j, hj, rfl⟩ := List.getElem_of_mem ht
    have hj' : j < k := by simp at hj; omega
    rw [List.getElem_take]
    simp [hn j _ hj' (List.getElem?_eq_getElem (by simp at hj; omega))]
theorem atO_none {p : List Sgm} {x : Int} (h : validB p = false ∨ ∀ (j : Nat) (t : Sgm), p[j]? = some t → hitB x t = false) : atO p x = none := by
  rw [atO]
  split
  · rename_i hv
    rcases h with h | h
    · rw [h] at hv; cases hv
    · rw [List.find?_eq_none]
      intro t ht
      obtain ⟨j, hj, rfl⟩ := List.getElem_of_mem ht
      simp [h j _ (List.getElem?_eq_getElem hj)]
  · rfl

/-- The least of several numbers, 0 if there is none. -/
def leastL : List Int → Int
  | [] => 0
  | a :: r => r.foldl min a
theorem leastL_snoc (l : List Int) (v : Int) : leastL (l ++ [v]) = if l = [] then v else min (leastL l) v := by
  cases l with
  | nil => rfl
  | cons a r => simp [leastL]
def touchB (f t : Int) (s : Sgm) : Bool := decide (s.from_ ≤ t) && decide (f ≤ s.to_)
noncomputable def touL (p : List Sgm) (f t : Int) : List Sgm := if validB p = true then p.filter (touchB f t) else []
noncomputable def slowV (p : List Sgm) (f t : Int) : Int := leastL ((touL p f t).map Sgm.speed)
noncomputable def steepV (p : List Sgm) (f t : Int) : Int := leastL ((touL p f t).map Sgm.grade)
theorem filter_take {p : List Sgm} {g : Sgm → Bool} {k : Nat} {s : Sgm} (h : p[k]? = some s) : (p.take (k + 1)).filter g = (p.take k).filter g ++ (if g s = true then [s] else []) := by
  obtain ⟨hl, rfl⟩ := List.getElem?_eq_some_iff.1 h
  rw [List.take_succ_eq_append_getElem hl, List.filter_append]
  congr 1
  by_cases hg : g p[k] = true <;> simp [hg]
/-- The part of a segment in a range. -/
def partS (f t : Int) (s : Sgm) : Sgm := ⟨max s.from_ f, min s.to_ t, s.grade, s.speed⟩
def partB (f t : Int) (s : Sgm) : Bool := decide ((partS f t s).from_ < (partS f t s).to_)
def cutF (f t : Int) (p : List Sgm) : List Sgm := (p.filter (partB f t)).map (partS f t)
noncomputable def cutL (p : List Sgm) (f t : Int) : List Sgm := if validB p = true then cutF f t p else []
theorem cutF_take {p : List Sgm} {f t : Int} {k : Nat} {s : Sgm} (h : p[k]? = some s) : cutF f t (p.take (k + 1)) = cutF f t (p.take k) ++ (if partB f t s = true then [partS f t s] else []) := by
  unfold cutF
  rw [filter_take h, List.map_append]
  congr 1
  split <;> simp
theorem cutF_len (f t : Int) (p : List Sgm) : (cutF f t p).length ≤ p.length := by
  unfold cutF; rw [List.length_map]; exact List.length_filter_le _ _
theorem touL_len (p : List Sgm) (f t : Int) : (touL p f t).length ≤ p.length := by
  unfold touL; split
  · exact List.length_filter_le _ _
  · simp
end Sg
