/- Small words of my own for the walks of this seat. -/
import Derived.Test.YtbgmknkmfhpgeaaDoorRows
import Derived.WalkKit
import Derived.ProofKit
import Derived.OpenShut
import Derived.Outline
import Derived.Lib.Hide
import Derived.Deep.QuietTactic
import Derived.BigQuiet
import Derived.Laws.AppendOwn
import Derived.Maps.AppendAt
import Derived.OwnWalk
namespace Go.Proofs.YtbgmknkmfhpgeaaDoor
open Go.ChangeShapes Go.WideShapes Go.ChangeAt Go.RowKit

theorem ret_int {k : IntKind} {a b : Int} (h : a = b) : Ending.returned (.int k a) = .returned (.int k b) := by rw [h]
theorem ret_int2 {k l : IntKind} {a b c d : Int} (h : a = b) (g : c = d) : Ending.returned (.tuple #[.int k a, .int l c]) = .returned (.tuple #[.int k b, .int l d]) := by rw [h, g]
theorem ret_bool {a b : Bool} (h : a = b) : Ending.returned (.bool a) = .returned (.bool b) := by rw [h]
/-- The slice value '.slice A xs.length cap' reads as the numbers xs. -/
def RdI (w : World) (A : Option Addr) (xs : List Int) : Prop :=
  0 < xs.length → ∃ b off, A = some ⟨b, off, none⟩ ∧ b < w.heap.size ∧ ∀ k, k < xs.length → w.cell? ⟨b, off + k, none⟩ = some (.int .i64 (xs.getD k 0))
theorem RdI.below {w w' : World} {B : Nat} {A : Option Addr} {xs : List Int} (h : RdI w A xs) (hb : Below B w w') (hB : w.heap.size ≤ B) : RdI w' A xs := fun h0 => by
  obtain ⟨b, off, e, h1, h2⟩ := h h0
  exact ⟨b, off, e, Nat.lt_of_lt_of_le h1 hb.size, fun k hk => (hb.cell (by show b < B; omega)).trans (h2 k hk)⟩
theorem RdI.nil {w : World} {A : Option Addr} : RdI w A [] := fun h => absurd h (by simp)
def Apart (v u : Value) : Prop := v.ownBlock = none ∨ u.ownBlock = none ∨ v.ownBlock ≠ u.ownBlock
theorem Apart.symm {v u : Value} (h : Apart v u) : Apart u v := by
  rcases h with h | h | h
  · exact .inr (.inl h)
  · exact .inl h
  · exact .inr (.inr h.symm)
theorem other_kept {w w1 w2 : World} {o : Obj} {B n m : Nat} {e f : TypeId} {s r : Nat} {v v' u : Value} {xs ys : List Value} (hw : w1 = w.alloc o) (hu : w.ownsRow B f r u m ys) (ha : Apart v u)
    (hg : w1.grownBy w2 v.ownBlock) (hat : v'.ownBlock = v.ownBlock ∨ v'.ownBlock = some w1.heap.size) (_h : w2.ownsRow B e s v' n xs) : w2.ownsRow B f r u m ys ∧ Apart v' u := by
  subst hw
  refine ⟨?_, ?_⟩
  · by_cases hn : v.ownBlock = none ∨ u.ownBlock = none
    · rcases hn with hn | hn
      · rw [hn] at hg
        refine (hu.alloc o).kept hg ?_
        cases hub : u.ownBlock with
        | none => exact .inl rfl
        | some k => exact .inr (by simp)
      · exact (hu.alloc o).kept hg (.inl hn)
    · have hne : v.ownBlock ≠ u.ownBlock := by
        rcases ha with h | h | h
        · exact absurd (.inl h) hn
        · exact absurd (.inr h) hn
        · exact h
      exact (hu.alloc o).kept hg (.inr hne.symm)
  · rcases hat with hat | hat
    · unfold Apart at *; rw [hat]; exact ha
    · cases hub : u.ownBlock with
      | none => exact .inr (.inl hub)
      | some k =>
        have := (hu.lt k hub).2
        refine .inr (.inr ?_)
        rw [hat, hub]
        simp
        omega
theorem below_app {w0 w w1 w2 : World} {o : Obj} {B n : Nat} {e : TypeId} {s : Nat} {v : Value} {xs : List Value} (hw : w1 = w.alloc o) (hb : Below B w0 w) (hB : B ≤ w.heap.size) (hv : w.ownsRow B e s v n xs) (hg : w1.grownBy w2 v.ownBlock) : Below B w0 w2 := by
  subst hw
  exact (hb.alloc hB o).grown hg (by simp; omega) fun k hk => (hv.lt k hk).1
theorem RdI_own {w : World} {B : Nat} {e : TypeId} {A : Option Addr} {n c : Nat} {xs : List Int} (h : w.ownsRow B e 1 (.slice A n c) n (xs.map (Value.int .i64))) : RdI w A xs := by
  intro h0
  have hl := h.1
  simp at hl
  rcases h.2 with ⟨h1, h2⟩ | ⟨g, cap, cur, hv, _⟩
  · omega
  · injection hv with hA hn hc
    subst hA
    have hlt := (h.lt g rfl).2
    refine ⟨g, 0, rfl, hlt, fun k hk => ?_⟩
    have := h.cells (g := g) rfl k (.int .i64 (xs.getD k 0)) (by simp [List.getD_eq_getElem?_getD, hk])
    rwa [WideShapes.add_plain] at this

/-- In a region that draws: a call by a contract that turns nothing. -/
theorem quiet_same {P : Program} {f : FuncId} {args : Array Value} {w : World} {n : Nat} {v : Value} (h : Calls P f args (w.drewN n) fun e w' => e = .returned v ∧ w.drewN n = w') : Calls P f args (w.drewN n) fun e w'' => e = .returned v ∧ ∃ m, w'' = w.drewN m :=
  h.mono fun _ _ ⟨he, hm⟩ => ⟨he, n, hm.symm⟩
theorem bdrewN {B : Nat} {a w : World} (h : Below B a w) (n : Nat) : Below B a (w.drewN n) := h.trans ⟨rfl, rfl, rfl, Nat.le_refl _, fun _ _ => rfl⟩
theorem own : ownKnob Tryd.prog.godebug = none := by kernel_rfl
end Go.Proofs.YtbgmknkmfhpgeaaDoor
