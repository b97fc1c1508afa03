/- What is known of an estimate with a number beside it (Spot). -/
import Derived.Test.YthkknagicdanfaaOpenT
set_option linter.unusedVariables false
namespace Go.Proofs.Ythkknagicdanfaa
open Go.ChangeShapes Go.WideShapes Go.ChangeAt Go.RowKit
open Sg

section
variable {H : Type} {enc : TypeId × Value → H} {w : World} {base b0 : Nat} {spare : Nat → Bool} {held : Bool} {r : Reach} {v : Value} {d : DataW H} {ps : List MemPlace}
theorem open_spot (hv : Value.okWide Try.prog w r b0 35 v) (h : DataW.Trod enc Try.prog w base spare held 35 v d ps) : ∃ (E : Es) (less : Int), v = .agg #[.int .i64 E.min, .int .i64 E.max, .int .i64 E.speed, .int .i64 less] := by
  obtain ⟨cs, rfl, hL⟩ := open_flat (n := 4) (l := [3, 3, 3, 3]) Try.underlying35 (by kernel_rfl) hv h
  obtain ⟨c0, r0, rfl, l0, hL⟩ := leaves_cons hL
  obtain ⟨c1, r1, rfl, l1, hL⟩ := leaves_cons hL
  obtain ⟨c2, r2, rfl, l2, hL⟩ := leaves_cons hL
  obtain ⟨c3, r3, rfl, l3, hL⟩ := leaves_cons hL
  obtain rfl := leaves_nil hL
  obtain ⟨v0, rfl, b0⟩ := leaf_i64 Try.underlying3 l0
  obtain ⟨v1, rfl, b1⟩ := leaf_i64 Try.underlying3 l1
  obtain ⟨v2, rfl, b2⟩ := leaf_i64 Try.underlying3 l2
  obtain ⟨v3, rfl, b3⟩ := leaf_i64 Try.underlying3 l3
  exact ⟨⟨v0, v1, v2⟩, v3, rfl⟩
end
end Go.Proofs.Ythkknagicdanfaa
