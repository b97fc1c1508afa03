/- What is known of an argument that came in: structs within structs, numbers, bools, strings, slices of such. -/
import Derived.Test.YtbgmknkmfhpgeaaDoorOpen
import Derived.Test.YtbgmknkmfhpgeaaDoorRd
import Derived.Deep.Slices
set_option linter.unusedVariables false
set_option linter.unusedSimpArgs false
namespace Go.Proofs.YtbgmknkmfhpgeaaDoor
open Go.ChangeShapes Go.WideShapes Go.ChangeAt Go.RowKit Go.Deep

/-- The types of the cells of a type that consists of structs, numbers, bools, strings and slices. -/
def flatFs (g : TypeId → Option (List TypeId)) : List Field → Nat → Option (List TypeId)
  | [], _ => some []
  | f :: r, off => if f.offset = off then match g f.type with
    | some l => match flatFs g r (off + l.length) with
      | some m => some (l ++ m)
      | none => none
    | none => none
    else none
def flat (P : Program) : Nat → TypeId → Option (List TypeId)
  | 0, _ => none
  | n + 1, t => match P.underlying t with
    | some (.struct fs) => match flatFs (flat P n) fs.toList 0 with
      | some l => if P.cellsOf t = l.length then some l else none
      | none => none
    | some (.int _) => if P.cellsOf t = 1 then some [t] else none
    | some .bool => if P.cellsOf t = 1 then some [t] else none
    | some .string => if P.cellsOf t = 1 then some [t] else none
    | some (.slice _) => if P.cellsOf t = 1 then some [t] else none
    | _ => none
section
variable {H : Type} {enc : TypeId × Value → H} {P : Program} {w : World} {base : Nat} {spare : Nat → Bool} {held : Bool}
def Leaf (enc : TypeId × Value → H) (P : Program) (w : World) (base : Nat) (spare : Nat → Bool) (held : Bool) (t : TypeId) (c : Value) : Prop := ∃ fuel y, DataW.trod enc P w base spare held fuel t [c] = some y
def Leaves (enc : TypeId × Value → H) (P : Program) (w : World) (base : Nat) (spare : Nat → Bool) (held : Bool) : List TypeId → List Value → Prop
  | [], [] => True
  | t :: ts, c :: cs => Leaf enc P w base spare held t c ∧ Leaves enc P w base spare held ts cs
  | _, _ => False
theorem leaves_nil {cs : List Value} (h : Leaves enc P w base spare held [] cs) : cs = [] := by cases cs with | nil => rfl | cons _ _ => exact h.elim
theorem leaves_cons {t : TypeId} {ts : List TypeId} {cs : List Value} (h : Leaves enc P w base spare held (t :: ts) cs) : ∃ c r, cs = c :: r ∧ Leaf enc P w base spare held t c ∧ Leaves enc P w base spare held ts r := by
  cases cs with
  | nil => exact h.elim
  | cons c r => exact ⟨c, r, rfl, h.1, h.2⟩
theorem leaves_append {l m : List TypeId} {a b : List Value} (h : Leaves enc P w base spare held l a) (g : Leaves enc P w base spare held m b) : Leaves enc P w base spare held (l ++ m) (a ++ b) := by
  induction l generalizing a with
  | nil => obtain rfl := leaves_nil h; exact g
  | cons t l ih => obtain ⟨c, r, rfl, h1, h2⟩ := leaves_cons h; exact ⟨h1, ih h2⟩
theorem flat_len {n : Nat} {t : TypeId} {l : List TypeId} (h : flat P n t = some l) : P.cellsOf t = l.length := by
  cases n with
  | zero => cases h
  | succ n =>
    unfold flat at h
    split at h
    · split at h
      · split at h
        · cases h; assumption
        · cases h
      · cases h
    all_goals first
      | (split at h
         · cases h; simpa using ‹_›
         · cases h)
      | cases h
theorem flat_fields {n fuel : Nat} {cs : List Value} (ih : ∀ {t : TypeId} {l : List TypeId} {cs : List Value} {x : DataW H × List MemPlace} {fuel : Nat}, flat P n t = some l → DataW.trod enc P w base spare held fuel t cs = some x → Leaves enc P w base spare held l cs) :
    ∀ (r : List Field) (off : Nat) (m : List TypeId), flatFs (flat P n) r off = some m → (∀ f ∈ r, ∃ y, DataW.trod enc P w base spare held fuel f.type ((cs.drop f.offset).take (P.cellsOf f.type)) = some y) → Leaves enc P w base spare held m ((cs.drop off).take m.length)
  | [], off, m, hm, _ => by cases hm; simp [Leaves]
  | f :: r, off, m, hm, hf => by
    unfold flatFs at hm
    split at hm
    · rename_i ho
      split at hm
      · rename_i l hl
        split at hm
        · rename_i m' hm'
          cases hm
          obtain ⟨y, hy⟩ := hf f (by simp)
          rw [flat_len hl, ho] at hy
          have h1 := ih hl hy
          have h2 := flat_fields ih r (off + l.length) m' hm' (fun g hg => hf g (by simp [hg]))
          rw [List.length_append, List.take_add, List.drop_drop]
          exact leaves_append h1 h2
        · cases hm
      · cases hm
    · cases hm
theorem flat_open : ∀ {n : Nat} {t : TypeId} {l : List TypeId} {cs : List Value} {x : DataW H × List MemPlace} {fuel : Nat}, flat P n t = some l → DataW.trod enc P w base spare held fuel t cs = some x → Leaves enc P w base spare held l cs
  | 0, _, _, _, _, _, h, _ => by cases h
  | n + 1, t, l, cs, x, fuel, h, ht => by
    have hlen := flat_len h
    unfold flat at h
    split at h
    · rename_i fs hu
      split at h
      · rename_i m hm
        split at h
        · cases h
          obtain ⟨xs, n', rfl, _, hc, hx, hall⟩ := DataW.trod_struct hu ht
          have := flat_fields (n := n) (fuel := n') (cs := cs) (fun a b => flat_open a b) fs.toList 0 _ hm (fun f hf => by
            obtain ⟨i, hi, rfl⟩ := List.getElem_of_mem hf
            have hi' : i < fs.size := by simpa using hi
            have h1 := hall i fs[i] (Array.getElem?_eq_getElem hi')
            rw [List.getElem?_eq_getElem (by omega)] at h1
            exact ⟨_, by simpa using h1⟩)
          rw [List.drop_zero, List.take_of_length_le (by omega)] at this
          exact this
        · cases h
      · cases h
    · rename_i hu
      split at h
      · cases h
        obtain ⟨k, rfl, _⟩ := DataW.trod_int hu ht
        exact ⟨⟨_, _, ht⟩, trivial⟩
      · cases h
    · rename_i hu
      split at h
      · cases h
        obtain ⟨k, rfl, _⟩ := DataW.trod_bool hu ht
        exact ⟨⟨_, _, ht⟩, trivial⟩
      · cases h
    · rename_i hu
      split at h
      · cases h
        obtain ⟨k, rfl, _⟩ := DataW.trod_string hu ht
        exact ⟨⟨_, _, ht⟩, trivial⟩
      · cases h
    · rename_i hu
      split at h
      · cases h
        rcases open_slice hu ht with ⟨rfl, _⟩ | ⟨a, len, cap, _, _, _, _, rfl, _⟩
        · exact ⟨⟨_, _, ht⟩, trivial⟩
        · exact ⟨⟨_, _, ht⟩, trivial⟩
      · cases h
    · cases h
theorem leaf_i64 {t : TypeId} {c : Value} (ht : P.underlying t = some (.int .i64)) (h : Leaf enc P w base spare held t c) : ∃ n, c = .int .i64 n ∧ I64 n := by
  obtain ⟨fuel, y, h⟩ := h
  obtain ⟨n, hc, _, hw⟩ := DataW.trod_int ht h
  cases hc
  exact ⟨n, rfl, i64_of_wf hw⟩
theorem leaf_bool {t : TypeId} {c : Value} (ht : P.underlying t = some .bool) (h : Leaf enc P w base spare held t c) : ∃ b, c = .bool b := by
  obtain ⟨fuel, y, h⟩ := h
  obtain ⟨n, hc, _⟩ := DataW.trod_bool ht h
  cases hc
  exact ⟨n, rfl⟩
theorem leaf_str {t : TypeId} {c : Value} (ht : P.underlying t = some .string) (h : Leaf enc P w base spare held t c) : ∃ s, c = .string s ∧ s.size ≤ maxLen := by
  obtain ⟨fuel, y, h⟩ := h
  obtain ⟨n, hc, _, hs⟩ := DataW.trod_string ht h
  cases hc
  exact ⟨n, rfl, hs⟩
theorem list_of {α : Type} {Q : Nat → α → Prop} : ∀ n : Nat, (∀ i, i < n → ∃ x, Q i x) → ∃ xs : List α, xs.length = n ∧ ∀ i x, xs[i]? = some x → Q i x
  | 0, _ => ⟨[], rfl, fun i x h => by simp at h⟩
  | n + 1, h => by
    obtain ⟨xs, hl, hx⟩ := list_of n (fun i hi => h i (by omega))
    obtain ⟨y, hy⟩ := h n (by omega)
    refine ⟨xs ++ [y], by simp [hl], fun i x hi => ?_⟩
    by_cases e : i < n
    · rw [List.getElem?_append_left (by omega)] at hi; exact hx i x hi
    · have : i = n := by
        have := (List.getElem?_eq_some_iff.1 hi).1
        simp at this; omega
      subst this
      rw [List.getElem?_append_right (by omega), hl] at hi
      simp at hi
      subst hi
      exact hy
theorem leaf_slice {α : Type} {en : α → List Value} {Q : α → Prop} {n : Nat} {l : List TypeId} {t e : TypeId} {c : Value} (ht : P.underlying t = some (.slice e)) (hl : flat P n e = some l) (h0 : 0 < l.length)
    (hdec : ∀ cs, Leaves enc P w base spare held l cs → ∃ x, cs = en x ∧ Q x) (h : Leaf enc P w base spare held t c) :
    ∃ (A : Option Addr) (xs : List α) (cap : Nat), c = .slice A xs.length cap ∧ Rd w A l.length en xs ∧ xs.length ≤ maxLen ∧ xs.length ≤ cap ∧ ∀ (i : Nat) (x : α), xs[i]? = some x → Q x := by
  obtain ⟨fuel, y, h⟩ := h
  rcases open_slice ht h with ⟨hc, _⟩ | ⟨a, len, cap, m, k, D, Pl, hc, _, hle, hcap, hm, _, hel⟩
  · cases hc
    exact ⟨none, [], 0, rfl, Rd.nil, by simp, by simp, fun i x hi => by simp at hi⟩
  · cases hc
    have hml : len ≤ m := by rw [hm]; split <;> omega
    obtain ⟨xs, hxl, hx⟩ := list_of (Q := fun i (x : α) => w.cells? base (a.add (i * l.length)) l.length = some (en x) ∧ Q x) len (fun i hi => by
      obtain ⟨cs', h1, h2⟩ := hel i (by omega)
      obtain ⟨x, rfl, hq⟩ := hdec cs' (flat_open hl h2)
      rw [flat_len hl] at h1
      exact ⟨x, h1, hq⟩)
    refine ⟨some a, xs, cap, by rw [hxl], fun hp => ?_, by omega, by omega, fun i x hi => (hx i x hi).2⟩
    obtain ⟨b, off, spot⟩ := a
    have hspot : spot = none := by
      obtain ⟨x, hx0⟩ : ∃ x, xs[0]? = some x := ⟨_, List.getElem?_eq_getElem hp⟩
      obtain ⟨_, h2, h3⟩ := World.cells?_some (hx 0 x hx0).1
      have h4 := h3 0 h0
      rw [List.getElem?_eq_getElem (by omega)] at h4
      simpa [Addr.add] using World.cell?_spot h4
    subst hspot
    have hcell : ∀ i x, xs[i]? = some x → ∀ j v, (en x)[j]? = some v → w.cell? ⟨b, off + i * l.length + j, none⟩ = some v := fun i x hi j v hj => by
      obtain ⟨_, h2, h3⟩ := World.cells?_some (hx i x hi).1
      have hjl : j < l.length := by have := (List.getElem?_eq_some_iff.1 hj).1; omega
      have h4 := h3 j hjl
      rw [add_plain, add_plain, hj] at h4
      exact h4
    have hb : b < w.heap.size := by
      obtain ⟨x, hx0⟩ : ∃ x, xs[0]? = some x := ⟨_, List.getElem?_eq_getElem hp⟩
      obtain ⟨_, h2, _⟩ := World.cells?_some (hx 0 x hx0).1
      exact block_lt (hcell 0 x hx0 0 _ (List.getElem?_eq_getElem (by omega)))
    exact ⟨b, off, rfl, hb, hcell⟩
theorem open_flat {r : Reach} {b0 n : Nat} {t : TypeId} {v : Value} {d : DataW H} {ps : List MemPlace} {fs : Array Field} {l : List TypeId} (hs : P.underlying t = some (.struct fs)) (hl : flat P n t = some l)
    (hv : Value.okWide P w r b0 t v) (h : DataW.Trod enc P w base spare held t v d ps) : ∃ cs : List Value, v = .agg cs.toArray ∧ Leaves enc P w base spare held l cs := by
  obtain ⟨cs, rfl, _⟩ := okWide_struct hs hv
  obtain ⟨fuel, hf⟩ := h
  have := flat_open hl hf
  exact ⟨cs.toList, by simp, by simpa [Value.cells] using this⟩
theorem open_leaf {r : Reach} {b0 n : Nat} {t e : TypeId} {v : Value} {d : DataW H} {ps : List MemPlace} (hs : P.underlying t = some (.slice e))
    (hv : Value.okWide P w r b0 t v) (h : DataW.Trod enc P w base spare held t v d ps) : Leaf enc P w base spare held t v := by
  obtain ⟨A, len, cap, rfl⟩ := okWide_slice hs hv
  obtain ⟨fuel, hf⟩ := h
  exact ⟨fuel, _, by simpa [Value.cells] using hf⟩
end
end Go.Proofs.YtbgmknkmfhpgeaaDoor
