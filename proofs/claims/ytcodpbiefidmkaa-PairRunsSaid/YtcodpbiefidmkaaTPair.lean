/- Requests: their cells. -/
import Derived.Test.YtcodpbiefidmkaaExt
import Derived.Test.YtcodpbiefidmkaaFlat
import Derived.Test.YtcodpbiefidmkaaPPair
import Derived.Deep.LoopGhost
set_option linter.unusedVariables false
set_option linter.unusedSimpArgs false
namespace Go.Proofs.Ytcodpbiefidmkaa
open Go.ChangeShapes Go.WideShapes Go.ChangeAt Go.RowKit
open Sg

def Prc (s : Prq) : List Value := [.int .i64 s.kind, .int .i64 s.subject, .int .i64 s.since, .string s.by_]
theorem Prc_len (s : Prq) : (Prc s).length = 4 := rfl
theorem Prc_one (s : Prq) : ∀ u ∈ Prc s, u.oneCell' = true := by intro u hu; simp [Prc] at hu; rcases hu with rfl | rfl | rfl | rfl <;> rfl
/-- The cells of the element k, in the walk's own spelling. -/
theorem rd_pr {w wr : World} {A : Option Addr} {p : List Prq} {k : Nat} (h : Rd w A 4 Prc p) (hb : Ext w wr) (hk : k < p.length) :
    ∃ b off s, A = some ⟨b, off, none⟩ ∧ p[k]? = some s ∧ b < wr.heap.size ∧ wr.cell? ⟨b, off + k * 4, none⟩ = some (.int .i64 s.kind) ∧ wr.cell? ⟨b, off + k * 4 + 1, none⟩ = some (.int .i64 s.subject) ∧ wr.cell? ⟨b, off + k * 4 + 1 + 1, none⟩ = some (.int .i64 s.since) ∧ wr.cell? ⟨b, off + k * 4 + 1 + 1 + 1, none⟩ = some (.string s.by_) := by
  obtain ⟨b, off, rfl, h1, h2⟩ := h.keep hb (by omega)
  obtain ⟨s, hs⟩ : ∃ s, p[k]? = some s := ⟨_, List.getElem?_eq_getElem hk⟩
  exact ⟨b, off, s, rfl, hs, h1, h2 k s hs 0 _ rfl, h2 k s hs 1 _ rfl, h2 k s hs 2 _ rfl, h2 k s hs 3 _ rfl⟩
def PrqI (s : Prq) : Prop := I64 s.kind ∧ I64 s.subject ∧ I64 s.since ∧ s.by_.size ≤ maxLen
section
variable {H : Type} {enc : TypeId × Value → H} {w : World} {base b0 : Nat} {spare : Nat → Bool} {held : Bool} {r : Reach} {v : Value} {d : DataW H} {ps : List MemPlace}
theorem leaves_pr {cs : List Value} (h : Leaves enc Try.prog w base spare held [3, 3, 3, 9] cs) : ∃ T : Prq, cs = Prc T ∧ PrqI T := by
  obtain ⟨c0, r0, rfl, l0, h⟩ := leaves_cons h
  obtain ⟨c1, r1, rfl, l1, h⟩ := leaves_cons h
  obtain ⟨c2, r2, rfl, l2, h⟩ := leaves_cons h
  obtain ⟨c3, r3, rfl, l3, h⟩ := leaves_cons h
  obtain rfl := leaves_nil h
  obtain ⟨v0, rfl, b0⟩ := leaf_i64 Try.underlying3 l0
  obtain ⟨v1, rfl, b1⟩ := leaf_i64 Try.underlying3 l1
  obtain ⟨v2, rfl, b2⟩ := leaf_i64 Try.underlying3 l2
  obtain ⟨v3, rfl, b3⟩ := leaf_str Try.underlying9 l3
  exact ⟨⟨v0, v1, v2, v3⟩, rfl, b0, b1, b2, b3⟩
theorem open_pr (hv : Value.okWide Try.prog w r b0 24 v) (h : DataW.Trod enc Try.prog w base spare held 24 v d ps) : ∃ T : Prq, v = .agg #[.int .i64 T.kind, .int .i64 T.subject, .int .i64 T.since, .string T.by_] ∧ PrqI T := by
  obtain ⟨cs, rfl, hL⟩ := open_flat (n := 3) (l := [3, 3, 3, 9]) Try.underlying24 (by kernel_rfl) hv h
  obtain ⟨T, rfl, hT⟩ := leaves_pr hL
  exact ⟨T, rfl, hT⟩
theorem leaf_prs {c : Value} (h : Leaf enc Try.prog w base spare held 22 c) : ∃ A xs cap, c = .slice A (List.length xs) cap ∧ Rd w A 4 Prc xs ∧ xs.length ≤ maxLen ∧ xs.length ≤ cap ∧ ∀ (i : Nat) (x : Prq), xs[i]? = some x → PrqI x :=
  leaf_slice (n := 3) (en := Prc) (Q := PrqI) Try.underlying22 (l := [3, 3, 3, 9]) (by kernel_rfl) (by decide) (fun cs hl => leaves_pr hl) h
theorem open_prs (hv : Value.okWide Try.prog w r b0 22 v) (h : DataW.Trod enc Try.prog w base spare held 22 v d ps) : ∃ A xs cap, v = .slice A (List.length xs) cap ∧ Rd w A 4 Prc xs ∧ xs.length ≤ maxLen ∧ xs.length ≤ cap ∧ ∀ (i : Nat) (x : Prq), xs[i]? = some x → PrqI x :=
  leaf_prs (open_leaf (n := 0) Try.underlying22 hv h)
end
end Go.Proofs.Ytcodpbiefidmkaa
