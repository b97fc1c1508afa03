/- A region that draws its order and whose calls make memory: one walk in the order of the text serves every order, if each operation yields one value in every world that is as the first one was below its heap's size. -/
import Derived.Test.YtbgmknkmfhpgeaaDoorKit
set_option linter.unusedVariables false
namespace Go.Proofs.YtbgmknkmfhpgeaaDoor
open Go.ChangeShapes Go.WideShapes Go.ChangeAt Go.RowKit

/-- A world that is as w was below its heap's size. -/
structure After (w : World) where
  val : World
  is : Below w.heap.size w val
theorem after_ne (w : World) : Nonempty (After w) := ⟨⟨w, Below.refl _ _⟩⟩
instance (w : World) : Nonempty (After w) := after_ne w
theorem After.cell {w : World} (x : After w) (b o : Nat) (h : b < w.heap.size) : x.val.cell? ⟨b, o, none⟩ = w.cell? ⟨b, o, none⟩ := x.is.cell (p := ⟨b, o, none⟩) h
theorem After.frozen {w : World} (x : After w) (b o : Nat) (h : b < w.heap.size) : x.val.frozen? ⟨b, o, none⟩ = w.frozen? ⟨b, o, none⟩ := x.is.frozen (p := ⟨b, o, none⟩) h
attribute [go_sem] After.cell After.frozen
/-- A region in the world w, or in a world that is as w was. -/
theorem wp_region_after {P : Program} {id : Nat} {Q : Exit → Act → World → Prop} {a : Act} {w : World} {l : List Oper} (hm : P.follows .mixedOrders = true) (hB : Region.lexB .any l.toArray = true)
    (h : wpQuiet P l.toArray (fun w' => ∃ x : After w, w' = x.val) (fun a' => ∀ w', (∃ x : After w, w' = x.val) → Q .normal a' w') l a) : (Code.region id l.toArray true).wp P Q a w :=
  wp_region_quiet (C := fun w' => ∃ x : After w, w' = x.val) hm hB ⟨⟨w.drew, (Below.refl _ _).drew⟩, rfl⟩ (by simpa using h)
theorem wp_region_in {P : Program} {id : Nat} {Q : Exit → Act → World → Prop} {a : Act} {w : World} (x : After w) {l : List Oper} (hm : P.follows .mixedOrders = true) (hB : Region.lexB .any l.toArray = true)
    (h : wpQuiet P l.toArray (fun w' => ∃ x : After w, w' = x.val) (fun a' => ∀ w', (∃ x : After w, w' = x.val) → Q .normal a' w') l a) : (Code.region id l.toArray true).wp P Q a x.val :=
  wp_region_quiet (C := fun w' => ∃ x : After w, w' = x.val) hm hB ⟨⟨x.val.drew, x.is.drew⟩, rfl⟩ (by simpa using h)
/-- A call inside such a region, by its contract. -/
theorem after_call {P : Program} {f : FuncId} {args : Array Value} {w : World} {v : Value} (x : After w) (h : Calls P f args x.val fun e w' => e = .returned v ∧ Below x.val.heap.size x.val w') :
    Calls P f args x.val fun e w'' => e = .returned v ∧ ∃ y : After w, w'' = y.val :=
  h.mono fun _ w' ⟨he, hb⟩ => ⟨he, ⟨w', x.is.trans (hb.mono x.is.size)⟩, rfl⟩
theorem after_same {P : Program} {f : FuncId} {args : Array Value} {w : World} {v : Value} (x : After w) (h : Calls P f args x.val fun e w' => e = .returned v ∧ x.val = w') :
    Calls P f args x.val fun e w'' => e = .returned v ∧ ∃ y : After w, w'' = y.val :=
  h.mono fun _ w' ⟨he, hb⟩ => ⟨he, x, hb.symm⟩
/-- Outside a region: what a contract leaves is a world as w was. -/
theorem to_after {P : Program} {f : FuncId} {args : Array Value} {w : World} {v : Value} (h : Calls P f args w fun e w' => e = .returned v ∧ Below w.heap.size w w') :
    Calls P f args w fun e w'' => ∃ y : After w, e = .returned v ∧ w'' = y.val := h.mono fun _ w' ⟨he, hb⟩ => ⟨⟨w', hb⟩, he, rfl⟩
theorem in_after {P : Program} {f : FuncId} {args : Array Value} {w : World} {v : Value} (x : After w) (h : Calls P f args x.val fun e w' => e = .returned v ∧ Below x.val.heap.size x.val w') :
    Calls P f args x.val fun e w'' => ∃ y : After w, e = .returned v ∧ w'' = y.val := h.mono fun _ w' ⟨he, hb⟩ => ⟨⟨w', x.is.trans (hb.mono x.is.size)⟩, he, rfl⟩
/-- The block b holds the values vs from its beginning on. -/
def CellsAt (w : World) (b : Nat) (vs : List Value) : Prop := b < w.heap.size ∧ ∀ j v, vs[j]? = some v → w.cell? ⟨b, j, none⟩ = some v
theorem CellsAt.new {w : World} {cs : Array Value} {t : TypeId} {b : Nat} (hb : b = w.heap.size) : CellsAt (w.alloc (.cells cs t)) b cs.toList := by
  subst hb
  refine ⟨by simp, fun j v hj => ?_⟩
  rw [Array.getElem?_toList] at hj
  exact (World.cell?_alloc_new w cs t j).trans hj
theorem CellsAt.alloc {w : World} {b : Nat} {vs : List Value} (h : CellsAt w b vs) (o : Obj) : CellsAt (w.alloc o) b vs :=
  ⟨by have := h.1; simp; omega, fun j v hj => (World.cell?_alloc_lt w o ⟨b, j, none⟩ h.1).trans (h.2 j v hj)⟩
theorem CellsAt.below {w w' : World} {B b : Nat} {vs : List Value} (h : CellsAt w b vs) (hb : Below B w w') (hB : b < B) : CellsAt w' b vs :=
  ⟨Nat.lt_of_lt_of_le h.1 hb.size, fun j v hj => (hb.cell (p := ⟨b, j, none⟩) hB).trans (h.2 j v hj)⟩
theorem CellsAt.keep {w w' : World} {b : Nat} {vs : List Value} (h : CellsAt w b vs) (hb : Below w.heap.size w w') : CellsAt w' b vs := h.below hb h.1
end Go.Proofs.YtbgmknkmfhpgeaaDoor
