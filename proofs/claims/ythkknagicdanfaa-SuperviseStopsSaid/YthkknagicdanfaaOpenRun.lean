/- What is known of a turn and of a run (chapter 34's Stops). -/
import Derived.Test.YthkknagicdanfaaOpenT
import Derived.Test.YthkknagicdanfaaExt
set_option linter.unusedVariables false
set_option linter.unusedSimpArgs false
namespace Go.Proofs.Ythkknagicdanfaa
open Go.ChangeShapes Go.WideShapes Go.ChangeAt Go.RowKit
open Sg

structure Trn where
  push : Int
  more : Int
  slip : Int
def Trc (s : Trn) : List Value := [.int .i64 s.push, .int .i64 s.more, .int .i64 s.slip]
theorem Trc_len (s : Trn) : (Trc s).length = 3 := rfl
theorem Trc_one (s : Trn) : ∀ u ∈ Trc s, u.oneCell' = true := by intro u hu; simp [Trc] at hu; rcases hu with rfl | rfl | rfl <;> rfl
/-- The cells of the element k, in the walk's own spelling. -/
theorem rd_tn {w wr : World} {A : Option Addr} {p : List Trn} {k : Nat} (h : Rd w A 3 Trc p) (hb : Ext w wr) (hk : k < p.length) :
    ∃ b off s, A = some ⟨b, off, none⟩ ∧ p[k]? = some s ∧ b < wr.heap.size ∧ wr.cell? ⟨b, off + k * 3, none⟩ = some (.int .i64 s.push) ∧ wr.cell? ⟨b, off + k * 3 + 1, none⟩ = some (.int .i64 s.more) ∧ wr.cell? ⟨b, off + k * 3 + 1 + 1, none⟩ = some (.int .i64 s.slip) := by
  obtain ⟨b, off, rfl, h1, h2⟩ := h.keep hb (by omega)
  obtain ⟨s, hs⟩ : ∃ s, p[k]? = some s := ⟨_, List.getElem?_eq_getElem hk⟩
  exact ⟨b, off, s, rfl, hs, h1, h2 k s hs 0 _ rfl, h2 k s hs 1 _ rfl, h2 k s hs 2 _ rfl⟩
def TrnI (s : Trn) : Prop := I64 s.push ∧ I64 s.more ∧ I64 s.slip
section
variable {H : Type} {enc : TypeId × Value → H} {w : World} {base b0 : Nat} {spare : Nat → Bool} {held : Bool} {r : Reach} {v : Value} {d : DataW H} {ps : List MemPlace}
theorem leaves_tn {cs : List Value} (h : Leaves enc Try.prog w base spare held [3, 3, 3] cs) : ∃ T : Trn, cs = Trc T ∧ TrnI T := by
  obtain ⟨c0, r0, rfl, l0, h⟩ := leaves_cons h
  obtain ⟨c1, r1, rfl, l1, h⟩ := leaves_cons h
  obtain ⟨c2, r2, rfl, l2, h⟩ := leaves_cons h
  obtain rfl := leaves_nil h
  obtain ⟨v0, rfl, b0⟩ := leaf_i64 Try.underlying3 l0
  obtain ⟨v1, rfl, b1⟩ := leaf_i64 Try.underlying3 l1
  obtain ⟨v2, rfl, b2⟩ := leaf_i64 Try.underlying3 l2
  exact ⟨⟨v0, v1, v2⟩, rfl, b0, b1, b2⟩
theorem open_tn (hv : Value.okWide Try.prog w r b0 44 v) (h : DataW.Trod enc Try.prog w base spare held 44 v d ps) : ∃ T : Trn, v = .agg #[.int .i64 T.push, .int .i64 T.more, .int .i64 T.slip] ∧ TrnI T := by
  obtain ⟨cs, rfl, hL⟩ := open_flat (n := 3) (l := [3, 3, 3]) Try.underlying44 (by kernel_rfl) hv h
  obtain ⟨T, rfl, hT⟩ := leaves_tn hL
  exact ⟨T, rfl, hT⟩
theorem leaf_tns {c : Value} (h : Leaf enc Try.prog w base spare held 40 c) : ∃ A xs cap, c = .slice A (List.length xs) cap ∧ Rd w A 3 Trc xs ∧ xs.length ≤ maxLen ∧ xs.length ≤ cap ∧ ∀ (i : Nat) (x : Trn), xs[i]? = some x → TrnI x :=
  leaf_slice (n := 3) (en := Trc) (Q := TrnI) Try.underlying40 (l := [3, 3, 3]) (by kernel_rfl) (by decide) (fun cs hl => leaves_tn hl) h
theorem open_tns (hv : Value.okWide Try.prog w r b0 40 v) (h : DataW.Trod enc Try.prog w base spare held 40 v d ps) : ∃ A xs cap, v = .slice A (List.length xs) cap ∧ Rd w A 3 Trc xs ∧ xs.length ≤ maxLen ∧ xs.length ≤ cap ∧ ∀ (i : Nat) (x : Trn), xs[i]? = some x → TrnI x :=
  leaf_tns (open_leaf (n := 0) Try.underlying40 hv h)

theorem open_run (hv : Value.okWide Try.prog w r b0 42 v) (h : DataW.Trod enc Try.prog w base spare held 42 v d ps) : ∃ (X V Bk Fr Fa : Int) (A : Option Addr) (ts : List Trn) (c : Nat), v = .agg #[.int .i64 X, .int .i64 V, .int .i64 Bk, .int .i64 Fr, .int .i64 Fa, .slice A (List.length ts) c] ∧ Rd w A 3 Trc ts ∧ ts.length ≤ maxLen ∧ ∀ (i : Nat) (x : Trn), ts[i]? = some x → TrnI x := by
  obtain ⟨cs, rfl, hL⟩ := open_flat (n := 4) (l := [3, 3, 3, 3, 3, 40]) Try.underlying42 (by kernel_rfl) hv h
  obtain ⟨c0, r0, rfl, l0, hL⟩ := leaves_cons hL
  obtain ⟨c1, r1, rfl, l1, hL⟩ := leaves_cons hL
  obtain ⟨c2, r2, rfl, l2, hL⟩ := leaves_cons hL
  obtain ⟨c3, r3, rfl, l3, hL⟩ := leaves_cons hL
  obtain ⟨c4, r4, rfl, l4, hL⟩ := leaves_cons hL
  obtain ⟨c5, r5, rfl, l5, hL⟩ := leaves_cons hL
  obtain rfl := leaves_nil hL
  obtain ⟨v0, rfl, _⟩ := leaf_i64 Try.underlying3 l0
  obtain ⟨v1, rfl, _⟩ := leaf_i64 Try.underlying3 l1
  obtain ⟨v2, rfl, _⟩ := leaf_i64 Try.underlying3 l2
  obtain ⟨v3, rfl, _⟩ := leaf_i64 Try.underlying3 l3
  obtain ⟨v4, rfl, _⟩ := leaf_i64 Try.underlying3 l4
  obtain ⟨A, ts, c, rfl, h1, h2, _, h4⟩ := leaf_tns l5
  exact ⟨v0, v1, v2, v3, v4, A, ts, c, rfl, h1, h2, h4⟩
end
end Go.Proofs.Ythkknagicdanfaa
