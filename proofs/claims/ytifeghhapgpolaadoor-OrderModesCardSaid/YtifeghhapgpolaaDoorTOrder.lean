/- Written orders: their cells. -/
import Derived.Test.YtifeghhapgpolaaDoorExt
import Derived.Test.YtifeghhapgpolaaDoorFlat
import Derived.Test.YtifeghhapgpolaaDoorPOrder
import Derived.Deep.LoopGhost
set_option linter.unusedVariables false
set_option linter.unusedSimpArgs false
namespace Go.Proofs.YtifeghhapgpolaaDoor
open Go.ChangeShapes Go.WideShapes Go.ChangeAt Go.RowKit
open Sg

def Oc (s : Odr) : List Value := [.int .i64 s.train, .int .i64 s.kind, .int .i64 s.until_]
theorem Oc_len (s : Odr) : (Oc s).length = 3 := rfl
theorem Oc_one (s : Odr) : ∀ u ∈ Oc s, u.oneCell' = true := by intro u hu; simp [Oc] at hu; rcases hu with rfl | rfl | rfl <;> rfl
/-- The cells of the element k, in the walk's own spelling. -/
theorem rd_od {w wr : World} {A : Option Addr} {p : List Odr} {k : Nat} (h : Rd w A 3 Oc p) (hb : Ext w wr) (hk : k < p.length) :
    ∃ b off s, A = some ⟨b, off, none⟩ ∧ p[k]? = some s ∧ b < wr.heap.size ∧ wr.cell? ⟨b, off + k * 3, none⟩ = some (.int .i64 s.train) ∧ wr.cell? ⟨b, off + k * 3 + 1, none⟩ = some (.int .i64 s.kind) ∧ wr.cell? ⟨b, off + k * 3 + 1 + 1, none⟩ = some (.int .i64 s.until_) := by
  obtain ⟨b, off, rfl, h1, h2⟩ := h.keep hb (by omega)
  obtain ⟨s, hs⟩ : ∃ s, p[k]? = some s := ⟨_, List.getElem?_eq_getElem hk⟩
  exact ⟨b, off, s, rfl, hs, h1, h2 k s hs 0 _ rfl, h2 k s hs 1 _ rfl, h2 k s hs 2 _ rfl⟩
def OdrI (s : Odr) : Prop := I64 s.train ∧ I64 s.kind ∧ I64 s.until_
section
variable {H : Type} {enc : TypeId × Value → H} {w : World} {base b0 : Nat} {spare : Nat → Bool} {held : Bool} {r : Reach} {v : Value} {d : DataW H} {ps : List MemPlace}
theorem leaves_od {cs : List Value} (h : Leaves enc Tryd.prog w base spare held [3, 3, 3] cs) : ∃ T : Odr, cs = Oc T ∧ OdrI T := by
  obtain ⟨c0, r0, rfl, l0, h⟩ := leaves_cons h
  obtain ⟨c1, r1, rfl, l1, h⟩ := leaves_cons h
  obtain ⟨c2, r2, rfl, l2, h⟩ := leaves_cons h
  obtain rfl := leaves_nil h
  obtain ⟨v0, rfl, b0⟩ := leaf_i64 Tryd.underlying3 l0
  obtain ⟨v1, rfl, b1⟩ := leaf_i64 Tryd.underlying3 l1
  obtain ⟨v2, rfl, b2⟩ := leaf_i64 Tryd.underlying3 l2
  exact ⟨⟨v0, v1, v2⟩, rfl, b0, b1, b2⟩
theorem open_od (hv : Value.okWide Tryd.prog w r b0 34 v) (h : DataW.Trod enc Tryd.prog w base spare held 34 v d ps) : ∃ T : Odr, v = .agg #[.int .i64 T.train, .int .i64 T.kind, .int .i64 T.until_] ∧ OdrI T := by
  obtain ⟨cs, rfl, hL⟩ := open_flat (n := 3) (l := [3, 3, 3]) Tryd.underlying34 (by kernel_rfl) hv h
  obtain ⟨T, rfl, hT⟩ := leaves_od hL
  exact ⟨T, rfl, hT⟩
theorem leaf_ods {c : Value} (h : Leaf enc Tryd.prog w base spare held 29 c) : ∃ A xs cap, c = .slice A (List.length xs) cap ∧ Rd w A 3 Oc xs ∧ xs.length ≤ maxLen ∧ xs.length ≤ cap ∧ ∀ (i : Nat) (x : Odr), xs[i]? = some x → OdrI x :=
  leaf_slice (n := 3) (en := Oc) (Q := OdrI) Tryd.underlying29 (l := [3, 3, 3]) (by kernel_rfl) (by decide) (fun cs hl => leaves_od hl) h
theorem open_ods (hv : Value.okWide Tryd.prog w r b0 29 v) (h : DataW.Trod enc Tryd.prog w base spare held 29 v d ps) : ∃ A xs cap, v = .slice A (List.length xs) cap ∧ Rd w A 3 Oc xs ∧ xs.length ≤ maxLen ∧ xs.length ≤ cap ∧ ∀ (i : Nat) (x : Odr), xs[i]? = some x → OdrI x :=
  leaf_ods (open_leaf (n := 0) Tryd.underlying29 hv h)
end
end Go.Proofs.YtifeghhapgpolaaDoor
