/- What is known of chapter 10's arguments: profiles, ranges. -/
import Derived.Test.YticonpjkcocgeaaDoorKAll
import Derived.Test.YticonpjkcocgeaaDoorWProf
set_option maxRecDepth 100000
set_option linter.unusedVariables false
namespace Go.Proofs.YticonpjkcocgeaaDoor
open Go.ChangeShapes Go.WideShapes Go.ChangeAt Go.RowKit
open Sg

theorem leaves_seg {H : Type} {enc : TypeId × Value → H} {w : World} {base : Nat} {spare : Nat → Bool} {held : Bool} {cs : List Value} (h : Leaves enc Tryd.prog w base spare held [3, 3, 3, 3] cs) :
    ∃ T : Sgm, cs = [.int .i64 T.from_, .int .i64 T.to_, .int .i64 T.grade, .int .i64 T.speed] ∧ I64 T.from_ ∧ I64 T.to_ ∧ I64 T.grade ∧ I64 T.speed := by
  obtain ⟨c0, r0, rfl, l0, h⟩ := leaves_cons h
  obtain ⟨c1, r1, rfl, l1, h⟩ := leaves_cons h
  obtain ⟨c2, r2, rfl, l2, h⟩ := leaves_cons h
  obtain ⟨c3, r3, rfl, l3, h⟩ := leaves_cons h
  obtain rfl := leaves_nil h
  obtain ⟨v0, rfl, b0⟩ := leaf_i64 Tryd.underlying3 l0
  obtain ⟨v1, rfl, b1⟩ := leaf_i64 Tryd.underlying3 l1
  obtain ⟨v2, rfl, b2⟩ := leaf_i64 Tryd.underlying3 l2
  obtain ⟨v3, rfl, b3⟩ := leaf_i64 Tryd.underlying3 l3
  exact ⟨⟨v0, v1, v2, v3⟩, rfl, b0, b1, b2, b3⟩
def SgI (s : Sgm) : Prop := I64 s.from_ ∧ I64 s.to_ ∧ I64 s.grade ∧ I64 s.speed
section
variable {H : Type} {enc : TypeId × Value → H} {w : World} {base b0 : Nat} {spare : Nat → Bool} {held : Bool} {r : Reach} {v : Value} {d : DataW H} {ps : List MemPlace}
theorem leaf_segs {c : Value} (h : Leaf enc Tryd.prog w base spare held 38 c) : ∃ A xs cap, c = .slice A (List.length xs) cap ∧ Rd w A 4 Sgc xs ∧ xs.length ≤ maxLen ∧ xs.length ≤ cap ∧ ∀ (i : Nat) (x : Sgm), xs[i]? = some x → SgI x :=
  leaf_slice (n := 3) (en := Sgc) (Q := SgI) Tryd.underlying38 (l := [3, 3, 3, 3]) (by kernel_rfl) (by decide) (fun cs hl => by
    obtain ⟨T, rfl, h⟩ := leaves_seg hl
    exact ⟨T, rfl, h⟩) h
theorem open_segs (hv : Value.okWide Tryd.prog w r b0 38 v) (h : DataW.Trod enc Tryd.prog w base spare held 38 v d ps) : ∃ A xs cap, v = .slice A (List.length xs) cap ∧ Rd w A 4 Sgc xs ∧ xs.length ≤ maxLen ∧ xs.length ≤ cap ∧ ∀ (i : Nat) (x : Sgm), xs[i]? = some x → SgI x :=
  leaf_segs (open_leaf (n := 0) Tryd.underlying38 hv h)
end
end Go.Proofs.YticonpjkcocgeaaDoor
