/- Calls: their cells. -/
import Derived.Test.YtcodpbiefidmkaaTPair
set_option linter.unusedVariables false
set_option linter.unusedSimpArgs false
namespace Sg
/-- A call of chapter 41. -/
structure Actn where
  call : Int
  kind : Int
  subject : Int
  now : Int
  by_ : ByteArray
end Sg
namespace Go.Proofs.Ytcodpbiefidmkaa
open Go.ChangeShapes Go.WideShapes Go.ChangeAt Go.RowKit
open Sg

def Actc (s : Actn) : List Value := [.int .i64 s.call, .int .i64 s.kind, .int .i64 s.subject, .int .i64 s.now, .string s.by_]
theorem Actc_len (s : Actn) : (Actc s).length = 5 := rfl
theorem Actc_one (s : Actn) : ∀ u ∈ Actc s, u.oneCell' = true := by intro u hu; simp [Actc] at hu; rcases hu with rfl | rfl | rfl | rfl | rfl <;> rfl
/-- The cells of the element k, in the walk's own spelling. -/
theorem rd_act {w wr : World} {A : Option Addr} {p : List Actn} {k : Nat} (h : Rd w A 5 Actc p) (hb : Ext w wr) (hk : k < p.length) :
    ∃ b off s, A = some ⟨b, off, none⟩ ∧ p[k]? = some s ∧ b < wr.heap.size ∧ wr.cell? ⟨b, off + k * 5, none⟩ = some (.int .i64 s.call) ∧ wr.cell? ⟨b, off + k * 5 + 1, none⟩ = some (.int .i64 s.kind) ∧ wr.cell? ⟨b, off + k * 5 + 1 + 1, none⟩ = some (.int .i64 s.subject) ∧ wr.cell? ⟨b, off + k * 5 + 1 + 1 + 1, none⟩ = some (.int .i64 s.now) ∧ wr.cell? ⟨b, off + k * 5 + 1 + 1 + 1 + 1, none⟩ = some (.string s.by_) := by
  obtain ⟨b, off, rfl, h1, h2⟩ := h.keep hb (by omega)
  obtain ⟨s, hs⟩ : ∃ s, p[k]? = some s := ⟨_, List.getElem?_eq_getElem hk⟩
  exact ⟨b, off, s, rfl, hs, h1, h2 k s hs 0 _ rfl, h2 k s hs 1 _ rfl, h2 k s hs 2 _ rfl, h2 k s hs 3 _ rfl, h2 k s hs 4 _ rfl⟩
def ActnI (s : Actn) : Prop := I64 s.call ∧ I64 s.kind ∧ I64 s.subject ∧ I64 s.now ∧ s.by_.size ≤ maxLen
section
variable {H : Type} {enc : TypeId × Value → H} {w : World} {base b0 : Nat} {spare : Nat → Bool} {held : Bool} {r : Reach} {v : Value} {d : DataW H} {ps : List MemPlace}
theorem leaves_act {cs : List Value} (h : Leaves enc Try.prog w base spare held [3, 3, 3, 3, 9] cs) : ∃ T : Actn, cs = Actc T ∧ ActnI T := by
  obtain ⟨c0, r0, rfl, l0, h⟩ := leaves_cons h
  obtain ⟨c1, r1, rfl, l1, h⟩ := leaves_cons h
  obtain ⟨c2, r2, rfl, l2, h⟩ := leaves_cons h
  obtain ⟨c3, r3, rfl, l3, h⟩ := leaves_cons h
  obtain ⟨c4, r4, rfl, l4, h⟩ := leaves_cons h
  obtain rfl := leaves_nil h
  obtain ⟨v0, rfl, b0⟩ := leaf_i64 Try.underlying3 l0
  obtain ⟨v1, rfl, b1⟩ := leaf_i64 Try.underlying3 l1
  obtain ⟨v2, rfl, b2⟩ := leaf_i64 Try.underlying3 l2
  obtain ⟨v3, rfl, b3⟩ := leaf_i64 Try.underlying3 l3
  obtain ⟨v4, rfl, b4⟩ := leaf_str Try.underlying9 l4
  exact ⟨⟨v0, v1, v2, v3, v4⟩, rfl, b0, b1, b2, b3, b4⟩
theorem open_act (hv : Value.okWide Try.prog w r b0 40 v) (h : DataW.Trod enc Try.prog w base spare held 40 v d ps) : ∃ T : Actn, v = .agg #[.int .i64 T.call, .int .i64 T.kind, .int .i64 T.subject, .int .i64 T.now, .string T.by_] ∧ ActnI T := by
  obtain ⟨cs, rfl, hL⟩ := open_flat (n := 3) (l := [3, 3, 3, 3, 9]) Try.underlying40 (by kernel_rfl) hv h
  obtain ⟨T, rfl, hT⟩ := leaves_act hL
  exact ⟨T, rfl, hT⟩
theorem leaf_acts {c : Value} (h : Leaf enc Try.prog w base spare held 38 c) : ∃ A xs cap, c = .slice A (List.length xs) cap ∧ Rd w A 5 Actc xs ∧ xs.length ≤ maxLen ∧ xs.length ≤ cap ∧ ∀ (i : Nat) (x : Actn), xs[i]? = some x → ActnI x :=
  leaf_slice (n := 3) (en := Actc) (Q := ActnI) Try.underlying38 (l := [3, 3, 3, 3, 9]) (by kernel_rfl) (by decide) (fun cs hl => leaves_act hl) h
theorem open_acts (hv : Value.okWide Try.prog w r b0 38 v) (h : DataW.Trod enc Try.prog w base spare held 38 v d ps) : ∃ A xs cap, v = .slice A (List.length xs) cap ∧ Rd w A 5 Actc xs ∧ xs.length ≤ maxLen ∧ xs.length ≤ cap ∧ ∀ (i : Nat) (x : Actn), xs[i]? = some x → ActnI x :=
  leaf_acts (open_leaf (n := 0) Try.underlying38 hv h)
end
end Go.Proofs.Ytcodpbiefidmkaa
