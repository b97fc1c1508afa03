/- Slices of structs: what is read of them; blocks of the call's own that are written. -/
import Derived.Test.YtbgmknkmfhpgeaaDoorTail
set_option linter.unusedVariables false
set_option linter.unusedSimpArgs false
namespace Go.Proofs.YtbgmknkmfhpgeaaDoor
open Go.ChangeShapes Go.WideShapes Go.ChangeAt Go.RowKit

/-- The slice value '.slice A xs.length cap', of elements of k cells, reads as the list xs; enc: an element's cells. -/
def Rd {α : Type} (w : World) (A : Option Addr) (k : Nat) (enc : α → List Value) (xs : List α) : Prop :=
  0 < xs.length → ∃ b off, A = some ⟨b, off, none⟩ ∧ b < w.heap.size ∧ ∀ i x, xs[i]? = some x → ∀ j v, (enc x)[j]? = some v → w.cell? ⟨b, off + i * k + j, none⟩ = some v
theorem Rd.nil {α : Type} {w : World} {A : Option Addr} {k : Nat} {enc : α → List Value} : Rd w A k enc [] := fun h => absurd h (by simp)
theorem Rd.below {α : Type} {w w' : World} {B : Nat} {A : Option Addr} {k : Nat} {enc : α → List Value} {xs : List α} (h : Rd w A k enc xs) (hb : Below B w w') (hB : w.heap.size ≤ B) : Rd w' A k enc xs := fun h0 => by
  obtain ⟨b, off, e, h1, h2⟩ := h h0
  exact ⟨b, off, e, Nat.lt_of_lt_of_le h1 hb.size, fun i x hi j v hj => (hb.cell (by show b < B; omega)).trans (h2 i x hi j v hj)⟩
theorem Rd.keep {α : Type} {w w' : World} {A : Option Addr} {k : Nat} {enc : α → List Value} {xs : List α} (h : Rd w A k enc xs) (hb : Below w.heap.size w w') : Rd w' A k enc xs := h.below hb (Nat.le_refl _)
/-- A block of the call's own: its cells, none frozen. -/
def Own (w : World) (b : Nat) (vs : List Value) : Prop := b < w.heap.size ∧ (∀ j v, vs[j]? = some v → w.cell? ⟨b, j, none⟩ = some v) ∧ ∀ j, w.frozen? ⟨b, j, none⟩ = false
theorem Own.cells {w : World} {b : Nat} {vs : List Value} (h : Own w b vs) : CellsAt w b vs := ⟨h.1, h.2.1⟩
theorem Own.below {w w' : World} {B b : Nat} {vs : List Value} (h : Own w b vs) (hb : Below B w w') (hB : b < B) : Own w' b vs :=
  ⟨Nat.lt_of_lt_of_le h.1 hb.size, fun j v hj => (hb.cell (p := ⟨b, j, none⟩) hB).trans (h.2.1 j v hj), fun j => (hb.frozen (p := ⟨b, j, none⟩) hB).trans (h.2.2 j)⟩
theorem Own.keep {w w' : World} {b : Nat} {vs : List Value} (h : Own w b vs) (hb : Below w.heap.size w w') : Own w' b vs := h.below hb h.1
theorem Own.new {w : World} {cs : Array Value} {t : TypeId} {b : Nat} (hb : b = w.heap.size) : Own (w.alloc (.cells cs t)) b cs.toList :=
  ⟨(CellsAt.new hb).1, (CellsAt.new hb).2, fun j => World.frozen?_alloc_at cs t b j hb⟩
theorem Own.alloc {w : World} {b : Nat} {vs : List Value} (h : Own w b vs) (o : Obj) : Own (w.alloc o) b vs := h.below ((Below.refl _ _).alloc (Nat.le_refl _) _) h.1
/-- w' is w but for the block b. -/
structure Only (b : Nat) (w w' : World) : Prop where
  os : w'.os = w.os
  tape : w'.tape = w.tape
  output : w'.output = w.output
  size : w'.heap.size = w.heap.size
  block : ∀ k, k ≠ b → w'.heap[k]? = w.heap[k]?
theorem Only.refl (b : Nat) (w : World) : Only b w w := ⟨rfl, rfl, rfl, rfl, fun _ _ => rfl⟩
theorem Only.trans {b : Nat} {u v w : World} (h : Only b u v) (g : Only b v w) : Only b u w :=
  ⟨g.os.trans h.os, g.tape.trans h.tape, g.output.trans h.output, g.size.trans h.size, fun k hk => (g.block k hk).trans (h.block k hk)⟩
theorem Only.set (w : World) (b o : Nat) (v : Value) : Only b w (w.setCell ⟨b, o, none⟩ v) :=
  ⟨rfl, rfl, rfl, by simp [World.setCell], fun k hk => Below.heap_setCell _ _ _ _ (by simpa using hk)⟩
theorem Below.only {B b : Nat} {u v w : World} (h : Below B u v) (g : Only b v w) (hb : B ≤ b) : Below B u w :=
  ⟨g.os.trans h.os, g.tape.trans h.tape, g.output.trans h.output, by rw [g.size]; exact h.size, fun k hk => (g.block k (by omega)).trans (h.block k hk)⟩
theorem CellsAt.only {b c : Nat} {v w : World} {vs : List Value} (h : CellsAt v c vs) (g : Only b v w) (hb : c ≠ b) : CellsAt w c vs :=
  ⟨by rw [g.size]; exact h.1, fun j u hj => (World.cell?_of_block (w := v) (a := ⟨c, j, none⟩) (g.block c hb)).trans (h.2 j u hj)⟩
theorem Own.only {b c : Nat} {v w : World} {vs : List Value} (h : Own v c vs) (g : Only b v w) (hb : c ≠ b) : Own w c vs :=
  ⟨(h.cells.only g hb).1, (h.cells.only g hb).2, fun j => (World.frozen?_of_block (w := v) (a := ⟨c, j, none⟩) (g.block c hb)).trans (h.2.2 j)⟩
theorem Own.set {w : World} {b : Nat} {vs : List Value} (h : Own w b vs) (o : Nat) (ho : o < vs.length) (v : Value) : Own (w.setCell ⟨b, o, none⟩ v) b (vs.set o v) := by
  refine ⟨by rw [(Only.set w b o v).size]; exact h.1, fun j u hj => ?_, fun j => ?_⟩
  · by_cases e : o = j
    · subst e
      rw [List.getElem?_set_self ho] at hj
      cases hj
      exact World.cell?_setCell_same _ _ _ (h.2.1 o _ (List.getElem?_eq_getElem ho))
    · rw [List.getElem?_set_ne e] at hj
      rw [World.cell?_setCell_other _ _ _ _ (by intro e2; simp only [Addr.mk.injEq] at e2; omega)]
      exact h.2.1 j u hj
  · have := h.2.2 j
    simp only [World.frozen?, World.setCell, Array.getElem?_modify] at this ⊢
    cases hq : w.heap[b]? with
    | none => simp [hq]
    | some ob => cases ob <;> simp_all
theorem set3 {w : World} {b : Nat} {us : List Value} (v0 v1 v2 : Value) (h : Own w b us) (h3 : us.length = 3) : ∃ w', w' = (((w.setCell ⟨b, 0, none⟩ v0).setCell ⟨b, 1, none⟩ v1).setCell ⟨b, 2, none⟩ v2) ∧ Own w' b [v0, v1, v2] ∧ Only b w w' := by
  refine ⟨_, rfl, ?_, ((Only.set _ _ _ _).trans (Only.set _ _ _ _)).trans (Only.set _ _ _ _)⟩
  match us, h3 with
  | [u0, u1, u2], _ => exact ((h.set 0 (by simp) v0).set 1 (by simp) v1).set 2 (by simp) v2
end Go.Proofs.YtbgmknkmfhpgeaaDoor
