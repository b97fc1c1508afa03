/- What is known of chapter 31's arguments: trains, estimates, places, movements. -/
import Derived.Test.YtehpeihnaaiknaaFlat
import Derived.Test.YtehpeihnaaiknaaPTrain
import Derived.Test.YtehpeihnaaiknaaWLawE3
set_option linter.unusedVariables false
namespace Go.Proofs.Ytehpeihnaaiknaa
open Go.ChangeShapes Go.WideShapes Go.ChangeAt Go.RowKit
open Sg

theorem leaves_train {H : Type} {enc : TypeId × Value → H} {w : World} {base : Nat} {spare : Nat → Bool} {held : Bool} {cs : List Value} (h : Leaves enc Try.prog w base spare held [3, 9, 3, 3, 3, 3, 3, 3, 3, 3] cs) :
    ∃ T : Tr, cs = [.int .i64 T.id, .string T.name, .int .i64 T.len, .int .i64 T.speed, .int .i64 T.accel, .int .i64 T.service, .int .i64 T.emergency, .int .i64 T.delay, .int .i64 T.cons, .int .i64 T.rate] ∧ I64 T.id ∧ T.name.size ≤ maxLen ∧ I64 T.len ∧ I64 T.speed ∧ I64 T.accel ∧ I64 T.service ∧ I64 T.emergency ∧ I64 T.delay ∧ I64 T.cons ∧ I64 T.rate := by
  obtain ⟨c0, r0, rfl, l0, h⟩ := leaves_cons h
  obtain ⟨c1, r1, rfl, l1, h⟩ := leaves_cons h
  obtain ⟨c2, r2, rfl, l2, h⟩ := leaves_cons h
  obtain ⟨c3, r3, rfl, l3, h⟩ := leaves_cons h
  obtain ⟨c4, r4, rfl, l4, h⟩ := leaves_cons h
  obtain ⟨c5, r5, rfl, l5, h⟩ := leaves_cons h
  obtain ⟨c6, r6, rfl, l6, h⟩ := leaves_cons h
  obtain ⟨c7, r7, rfl, l7, h⟩ := leaves_cons h
  obtain ⟨c8, r8, rfl, l8, h⟩ := leaves_cons h
  obtain ⟨c9, r9, rfl, l9, h⟩ := leaves_cons h
  obtain rfl := leaves_nil h
  obtain ⟨v0, rfl, b0⟩ := leaf_i64 Try.underlying3 l0
  obtain ⟨v1, rfl, b1⟩ := leaf_str Try.underlying9 l1
  obtain ⟨v2, rfl, b2⟩ := leaf_i64 Try.underlying3 l2
  obtain ⟨v3, rfl, b3⟩ := leaf_i64 Try.underlying3 l3
  obtain ⟨v4, rfl, b4⟩ := leaf_i64 Try.underlying3 l4
  obtain ⟨v5, rfl, b5⟩ := leaf_i64 Try.underlying3 l5
  obtain ⟨v6, rfl, b6⟩ := leaf_i64 Try.underlying3 l6
  obtain ⟨v7, rfl, b7⟩ := leaf_i64 Try.underlying3 l7
  obtain ⟨v8, rfl, b8⟩ := leaf_i64 Try.underlying3 l8
  obtain ⟨v9, rfl, b9⟩ := leaf_i64 Try.underlying3 l9
  exact ⟨⟨v0, v1, v2, v3, v4, v5, v6, v7, v8, v9⟩, rfl, b0, b1, b2, b3, b4, b5, b6, b7, b8, b9⟩
theorem leaves_est {H : Type} {enc : TypeId × Value → H} {w : World} {base : Nat} {spare : Nat → Bool} {held : Bool} {cs : List Value} (h : Leaves enc Try.prog w base spare held [3, 3, 3] cs) :
    ∃ T : Es, cs = [.int .i64 T.min, .int .i64 T.max, .int .i64 T.speed] ∧ I64 T.min ∧ I64 T.max ∧ I64 T.speed := by
  obtain ⟨c0, r0, rfl, l0, h⟩ := leaves_cons h
  obtain ⟨c1, r1, rfl, l1, h⟩ := leaves_cons h
  obtain ⟨c2, r2, rfl, l2, h⟩ := leaves_cons h
  obtain rfl := leaves_nil h
  obtain ⟨v0, rfl, b0⟩ := leaf_i64 Try.underlying3 l0
  obtain ⟨v1, rfl, b1⟩ := leaf_i64 Try.underlying3 l1
  obtain ⟨v2, rfl, b2⟩ := leaf_i64 Try.underlying3 l2
  exact ⟨⟨v0, v1, v2⟩, rfl, b0, b1, b2⟩
theorem leaves_move {H : Type} {enc : TypeId × Value → H} {w : World} {base : Nat} {spare : Nat → Bool} {held : Bool} {cs : List Value} (h : Leaves enc Try.prog w base spare held [3, 3, 3] cs) :
    ∃ T : Mv, cs = [.int .i64 T.d, .int .i64 T.slip, .int .i64 T.balise] ∧ I64 T.d ∧ I64 T.slip ∧ I64 T.balise := by
  obtain ⟨c0, r0, rfl, l0, h⟩ := leaves_cons h
  obtain ⟨c1, r1, rfl, l1, h⟩ := leaves_cons h
  obtain ⟨c2, r2, rfl, l2, h⟩ := leaves_cons h
  obtain rfl := leaves_nil h
  obtain ⟨v0, rfl, b0⟩ := leaf_i64 Try.underlying3 l0
  obtain ⟨v1, rfl, b1⟩ := leaf_i64 Try.underlying3 l1
  obtain ⟨v2, rfl, b2⟩ := leaf_i64 Try.underlying3 l2
  exact ⟨⟨v0, v1, v2⟩, rfl, b0, b1, b2⟩
structure Pl where
  p0 : Int
  p1 : Int
  p2 : Int
  p3 : Int
theorem leaves_place {H : Type} {enc : TypeId × Value → H} {w : World} {base : Nat} {spare : Nat → Bool} {held : Bool} {cs : List Value} (h : Leaves enc Try.prog w base spare held [3, 3, 3, 3] cs) :
    ∃ T : Pl, cs = [.int .i64 T.p0, .int .i64 T.p1, .int .i64 T.p2, .int .i64 T.p3] ∧ I64 T.p0 ∧ I64 T.p1 ∧ I64 T.p2 ∧ I64 T.p3 := by
  obtain ⟨c0, r0, rfl, l0, h⟩ := leaves_cons h
  obtain ⟨c1, r1, rfl, l1, h⟩ := leaves_cons h
  obtain ⟨c2, r2, rfl, l2, h⟩ := leaves_cons h
  obtain ⟨c3, r3, rfl, l3, h⟩ := leaves_cons h
  obtain rfl := leaves_nil h
  obtain ⟨v0, rfl, b0⟩ := leaf_i64 Try.underlying3 l0
  obtain ⟨v1, rfl, b1⟩ := leaf_i64 Try.underlying3 l1
  obtain ⟨v2, rfl, b2⟩ := leaf_i64 Try.underlying3 l2
  obtain ⟨v3, rfl, b3⟩ := leaf_i64 Try.underlying3 l3
  exact ⟨⟨v0, v1, v2, v3⟩, rfl, b0, b1, b2, b3⟩
section
variable {H : Type} {enc : TypeId × Value → H} {w : World} {base b0 : Nat} {spare : Nat → Bool} {held : Bool} {r : Reach} {v : Value} {d : DataW H} {ps : List MemPlace}
theorem open_train (hv : Value.okWide Try.prog w r b0 23 v) (h : DataW.Trod enc Try.prog w base spare held 23 v d ps) : ∃ T : Tr, v = .agg #[.int .i64 T.id, .string T.name, .int .i64 T.len, .int .i64 T.speed, .int .i64 T.accel, .int .i64 T.service, .int .i64 T.emergency, .int .i64 T.delay, .int .i64 T.cons, .int .i64 T.rate] ∧ T.name.size ≤ maxLen := by
  obtain ⟨cs, rfl, hl⟩ := open_flat (n := 3) (l := [3, 9, 3, 3, 3, 3, 3, 3, 3, 3]) Try.underlying23 (by kernel_rfl) hv h
  obtain ⟨T, rfl, _, hs, _⟩ := leaves_train hl
  exact ⟨T, rfl, hs⟩
theorem open_est (hv : Value.okWide Try.prog w r b0 32 v) (h : DataW.Trod enc Try.prog w base spare held 32 v d ps) : ∃ E : Es, v = .agg #[.int .i64 E.min, .int .i64 E.max, .int .i64 E.speed] ∧ I64 E.min ∧ I64 E.max ∧ I64 E.speed := by
  obtain ⟨cs, rfl, hl⟩ := open_flat (n := 3) (l := [3, 3, 3]) Try.underlying32 (by kernel_rfl) hv h
  obtain ⟨T, rfl, h1, h2, h3⟩ := leaves_est hl
  exact ⟨T, rfl, h1, h2, h3⟩
theorem open_place (hv : Value.okWide Try.prog w r b0 36 v) (h : DataW.Trod enc Try.prog w base spare held 36 v d ps) : ∃ p0 p1 p2 p3 : Int, v = .agg #[.int .i64 p0, .int .i64 p1, .int .i64 p2, .int .i64 p3] := by
  obtain ⟨cs, rfl, hl⟩ := open_flat (n := 3) (l := [3, 3, 3, 3]) Try.underlying36 (by kernel_rfl) hv h
  obtain ⟨T, rfl, _⟩ := leaves_place hl
  exact ⟨_, _, _, _, rfl⟩
theorem open_moves (hv : Value.okWide Try.prog w r b0 41 v) (h : DataW.Trod enc Try.prog w base spare held 41 v d ps) : ∃ A xs cap, v = .slice A (List.length xs) cap ∧ Rd w A 3 Mv.enc xs ∧ xs.length ≤ maxLen := by
  obtain ⟨A, xs, cap, rfl, h1, h2, _⟩ := leaf_slice (n := 3) (en := Mv.enc) (Q := fun _ => True) Try.underlying41 (l := [3, 3, 3]) (by kernel_rfl) (by decide) (fun cs hl => by
    obtain ⟨T, rfl, _⟩ := leaves_move hl
    exact ⟨T, rfl, trivial⟩) (open_leaf (n := 0) Try.underlying41 hv h)
  exact ⟨A, xs, cap, rfl, h1, h2⟩
end
end Go.Proofs.Ytehpeihnaaiknaa
