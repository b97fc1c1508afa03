/- What is known of trains, estimates and authorities. -/
import Derived.Test.YtbgmknkmfhpgeaaDoorFlat
import Derived.Test.YtbgmknkmfhpgeaaDoorPAll
import Derived.Test.YtbgmknkmfhpgeaaDoorOpenB
set_option maxRecDepth 100000
set_option linter.unusedVariables false
namespace Go.Proofs.YtbgmknkmfhpgeaaDoor
open Go.ChangeShapes Go.WideShapes Go.ChangeAt Go.RowKit
open Sg

theorem leaves_train {H : Type} {enc : TypeId × Value → H} {w : World} {base : Nat} {spare : Nat → Bool} {held : Bool} {cs : List Value} (h : Leaves enc Tryd.prog w base spare held [3, 9, 3, 3, 3, 3, 3, 3, 3, 3] cs) :
    ∃ T : Tr, cs = [.int .i64 T.id, .string T.name, .int .i64 T.len, .int .i64 T.speed, .int .i64 T.accel, .int .i64 T.service, .int .i64 T.emergency, .int .i64 T.delay, .int .i64 T.cons, .int .i64 T.rate] ∧ I64 T.id ∧ T.name.size ≤ maxLen ∧ I64 T.len ∧ I64 T.speed ∧ I64 T.accel ∧ I64 T.service ∧ I64 T.emergency ∧ I64 T.delay ∧ I64 T.cons ∧ I64 T.rate := by
  obtain ⟨c0, r0, rfl, l0, h⟩ := leaves_cons h
  obtain ⟨c1, r1, rfl, l1, h⟩ := leaves_cons h
  obtain ⟨c2, r2, rfl, l2, h⟩ := leaves_cons h
  obtain ⟨c3, r3, rfl, l3, h⟩ := leaves_cons h
  obtain ⟨c4, r4, rfl, l4, h⟩ := leaves_cons h
  obtain ⟨c5, r5, rfl, l5, h⟩ := leaves_cons h
  obtain ⟨c6, r6, rfl, l6, h⟩ := leaves_cons h
  obtain ⟨c7, r7, rfl, l7, h⟩ := leaves_cons h
  obtain ⟨c8, r8, rfl, l8, h⟩ := leaves_cons h
  obtain ⟨c9, r9, rfl, l9, h⟩ := leaves_cons h
  obtain rfl := leaves_nil h
  obtain ⟨v0, rfl, b0⟩ := leaf_i64 Tryd.underlying3 l0
  obtain ⟨v1, rfl, b1⟩ := leaf_str Tryd.underlying9 l1
  obtain ⟨v2, rfl, b2⟩ := leaf_i64 Tryd.underlying3 l2
  obtain ⟨v3, rfl, b3⟩ := leaf_i64 Tryd.underlying3 l3
  obtain ⟨v4, rfl, b4⟩ := leaf_i64 Tryd.underlying3 l4
  obtain ⟨v5, rfl, b5⟩ := leaf_i64 Tryd.underlying3 l5
  obtain ⟨v6, rfl, b6⟩ := leaf_i64 Tryd.underlying3 l6
  obtain ⟨v7, rfl, b7⟩ := leaf_i64 Tryd.underlying3 l7
  obtain ⟨v8, rfl, b8⟩ := leaf_i64 Tryd.underlying3 l8
  obtain ⟨v9, rfl, b9⟩ := leaf_i64 Tryd.underlying3 l9
  exact ⟨⟨v0, v1, v2, v3, v4, v5, v6, v7, v8, v9⟩, rfl, b0, b1, b2, b3, b4, b5, b6, b7, b8, b9⟩
theorem leaves_est {H : Type} {enc : TypeId × Value → H} {w : World} {base : Nat} {spare : Nat → Bool} {held : Bool} {cs : List Value} (h : Leaves enc Tryd.prog w base spare held [3, 3, 3] cs) :
    ∃ T : Es, cs = [.int .i64 T.min, .int .i64 T.max, .int .i64 T.speed] ∧ I64 T.min ∧ I64 T.max ∧ I64 T.speed := by
  obtain ⟨c0, r0, rfl, l0, h⟩ := leaves_cons h
  obtain ⟨c1, r1, rfl, l1, h⟩ := leaves_cons h
  obtain ⟨c2, r2, rfl, l2, h⟩ := leaves_cons h
  obtain rfl := leaves_nil h
  obtain ⟨v0, rfl, b0⟩ := leaf_i64 Tryd.underlying3 l0
  obtain ⟨v1, rfl, b1⟩ := leaf_i64 Tryd.underlying3 l1
  obtain ⟨v2, rfl, b2⟩ := leaf_i64 Tryd.underlying3 l2
  exact ⟨⟨v0, v1, v2⟩, rfl, b0, b1, b2⟩
structure Lkd where
  id : Int
  at_ : Int
def Lkd.enc (l : Lkd) : List Value := [.int .i64 l.id, .int .i64 l.at_]
theorem leaves_link {H : Type} {enc : TypeId × Value → H} {w : World} {base : Nat} {spare : Nat → Bool} {held : Bool} {cs : List Value} (h : Leaves enc Tryd.prog w base spare held [3, 3] cs) :
    ∃ T : Lkd, cs = [.int .i64 T.id, .int .i64 T.at_] ∧ I64 T.id ∧ I64 T.at_ := by
  obtain ⟨c0, r0, rfl, l0, h⟩ := leaves_cons h
  obtain ⟨c1, r1, rfl, l1, h⟩ := leaves_cons h
  obtain rfl := leaves_nil h
  obtain ⟨v0, rfl, b0⟩ := leaf_i64 Tryd.underlying3 l0
  obtain ⟨v1, rfl, b1⟩ := leaf_i64 Tryd.underlying3 l1
  exact ⟨⟨v0, v1⟩, rfl, b0, b1⟩
theorem leaf_links {H : Type} {enc : TypeId × Value → H} {w : World} {base : Nat} {spare : Nat → Bool} {held : Bool} {c : Value} (h : Leaf enc Tryd.prog w base spare held 27 c) : ∃ A xs cap, c = .slice A (List.length xs) cap ∧ Rd w A 2 Lkd.enc xs ∧ xs.length ≤ maxLen ∧ xs.length ≤ cap ∧ ∀ (i : Nat) (x : Lkd), xs[i]? = some x → I64 x.id ∧ I64 x.at_ :=
  leaf_slice (n := 3) (en := Lkd.enc) (Q := fun x => I64 x.id ∧ I64 x.at_) Tryd.underlying27 (l := [3, 3]) (by kernel_rfl) (by decide) (fun cs hl => by
    obtain ⟨T, rfl, h⟩ := leaves_link hl
    exact ⟨T, rfl, h⟩) h
section
variable {H : Type} {enc : TypeId × Value → H} {w : World} {base b0 : Nat} {spare : Nat → Bool} {held : Bool} {r : Reach} {v : Value} {d : DataW H} {ps : List MemPlace}
theorem open_train (hv : Value.okWide Tryd.prog w r b0 23 v) (h : DataW.Trod enc Tryd.prog w base spare held 23 v d ps) : ∃ T : Tr, v = .agg #[.int .i64 T.id, .string T.name, .int .i64 T.len, .int .i64 T.speed, .int .i64 T.accel, .int .i64 T.service, .int .i64 T.emergency, .int .i64 T.delay, .int .i64 T.cons, .int .i64 T.rate] ∧ T.name.size ≤ maxLen := by
  obtain ⟨cs, rfl, hl⟩ := open_flat (n := 3) (l := [3, 9, 3, 3, 3, 3, 3, 3, 3, 3]) Tryd.underlying23 (by kernel_rfl) hv h
  obtain ⟨T, rfl, _, hs, _⟩ := leaves_train hl
  exact ⟨T, rfl, hs⟩
theorem open_est (hv : Value.okWide Tryd.prog w r b0 25 v) (h : DataW.Trod enc Tryd.prog w base spare held 25 v d ps) : ∃ E : Es, v = .agg #[.int .i64 E.min, .int .i64 E.max, .int .i64 E.speed] ∧ I64 E.min ∧ I64 E.max ∧ I64 E.speed := by
  obtain ⟨cs, rfl, hl⟩ := open_flat (n := 3) (l := [3, 3, 3]) Tryd.underlying25 (by kernel_rfl) hv h
  obtain ⟨T, rfl, h1, h2, h3⟩ := leaves_est hl
  exact ⟨T, rfl, h1, h2, h3⟩
theorem open_auth (hv : Value.okWide Tryd.prog w r b0 29 v) (h : DataW.Trod enc Tryd.prog w base spare held 29 v d ps) : ∃ sq en A p cap LA ln lc, v = .agg #[.int .i64 sq, .int .i64 en, .slice A (List.length p) cap, .slice LA ln lc] ∧ I64 sq ∧ I64 en ∧ Rd w A 4 Sgc p ∧ p.length ≤ maxLen ∧ p.length ≤ cap ∧ (∀ (i : Nat) (x : Sgm), p[i]? = some x → SgI x) ∧ ∃ ls : List Lkd, ln = ls.length ∧ Rd w LA 2 Lkd.enc ls ∧ ls.length ≤ maxLen ∧ ls.length ≤ lc ∧ ∀ (i : Nat) (x : Lkd), ls[i]? = some x → I64 x.id ∧ I64 x.at_ := by
  obtain ⟨cs, rfl, hL⟩ := open_flat (n := 3) (l := [3, 3, 26, 27]) Tryd.underlying29 (by kernel_rfl) hv h
  obtain ⟨c0, r0, rfl, l0, hL⟩ := leaves_cons hL
  obtain ⟨c1, r1, rfl, l1, hL⟩ := leaves_cons hL
  obtain ⟨c2, r2, rfl, l2, hL⟩ := leaves_cons hL
  obtain ⟨c3, r3, rfl, l3, hL⟩ := leaves_cons hL
  obtain rfl := leaves_nil hL
  obtain ⟨v0, rfl, b0⟩ := leaf_i64 Tryd.underlying3 l0
  obtain ⟨v1, rfl, b1⟩ := leaf_i64 Tryd.underlying3 l1
  obtain ⟨A, p, cap, rfl, h1, h2, h3, h4⟩ := leaf_segs l2
  obtain ⟨LA, ls, lc, rfl, g1, g2, g3, g4⟩ := leaf_links l3
  exact ⟨v0, v1, A, p, cap, LA, _, lc, rfl, b0, b1, h1, h2, h3, h4, ls, rfl, g1, g2, g3, g4⟩
end
end Go.Proofs.YtbgmknkmfhpgeaaDoor
