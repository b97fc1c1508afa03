/- Walks of package profile and of its reference: Valid, At. -/
import Derived.Test.YticonpjkcocgeaaDoorKAll
import Derived.Test.YticonpjkcocgeaaDoorPAll
import Derived.Deep.LoopGhost
set_option linter.unusedVariables false
set_option linter.unusedSimpArgs false
namespace Go.Proofs.YticonpjkcocgeaaDoor
open Go.ChangeShapes Go.WideShapes Go.ChangeAt Go.RowKit
open Sg

def Sgc (s : Sgm) : List Value := [.int .i64 s.from_, .int .i64 s.to_, .int .i64 s.grade, .int .i64 s.speed]
theorem Sgc_len (s : Sgm) : (Sgc s).length = 4 := rfl
theorem Sgc_one (s : Sgm) : ∀ u ∈ Sgc s, u.oneCell' = true := by intro u hu; simp [Sgc] at hu; rcases hu with rfl | rfl | rfl | rfl <;> rfl
/-- The cells of the segment k, in the walk's own spelling. -/
theorem rd_seg {w wr : World} {A : Option Addr} {p : List Sgm} {k : Nat} (h : Rd w A 4 Sgc p) (hb : Below w.heap.size w wr) (hk : k < p.length) :
    ∃ b off s, A = some ⟨b, off, none⟩ ∧ p[k]? = some s ∧ b < wr.heap.size ∧ wr.cell? ⟨b, off + k * 4, none⟩ = some (.int .i64 s.from_) ∧ wr.cell? ⟨b, off + k * 4 + 1, none⟩ = some (.int .i64 s.to_) ∧ wr.cell? ⟨b, off + k * 4 + 1 + 1, none⟩ = some (.int .i64 s.grade) ∧ wr.cell? ⟨b, off + k * 4 + 1 + 1 + 1, none⟩ = some (.int .i64 s.speed) := by
  obtain ⟨b, off, rfl, h1, h2⟩ := h.keep hb (by omega)
  obtain ⟨s, hs⟩ : ∃ s, p[k]? = some s := ⟨_, List.getElem?_eq_getElem hk⟩
  exact ⟨b, off, s, rfl, hs, h1, h2 k s hs 0 _ rfl, h2 k s hs 1 _ rfl, h2 k s hs 2 _ rfl, h2 k s hs 3 _ rfl⟩
def coB (n : Int) : Bool := decide (-1073741824 ≤ n) && decide (n ≤ 1073741824)
theorem coB_true {n : Int} : coB n = true ↔ -1073741824 ≤ n ∧ n ≤ 1073741824 := by simp [coB]
theorem coB_false {n : Int} : coB n = false ↔ ¬ (-1073741824 ≤ n ∧ n ≤ 1073741824) := by simp [coB]
theorem bad_seg {s : Sgm} (h : ¬ SegOk s) : (coB s.from_ = false) ∨ (coB s.from_ = true ∧ coB s.to_ = false) ∨ (coB s.from_ = true ∧ coB s.to_ = true ∧ s.to_ ≤ s.from_) ∨ (coB s.from_ = true ∧ coB s.to_ = true ∧ decide (s.to_ ≤ s.from_) = false ∧ s.grade < -50) ∨
    (coB s.from_ = true ∧ coB s.to_ = true ∧ decide (s.to_ ≤ s.from_) = false ∧ decide (s.grade < -50) = false ∧ 50 < s.grade) ∨ (coB s.from_ = true ∧ coB s.to_ = true ∧ decide (s.to_ ≤ s.from_) = false ∧ decide (s.grade < -50) = false ∧ decide (50 < s.grade) = false ∧ s.speed < 1) ∨
    (coB s.from_ = true ∧ coB s.to_ = true ∧ decide (s.to_ ≤ s.from_) = false ∧ decide (s.grade < -50) = false ∧ decide (50 < s.grade) = false ∧ decide (s.speed < 1) = false ∧ 10000 < s.speed) := by
  unfold SegOk at h
  simp only [coB_true, coB_false, decide_eq_false_iff_not]
  omega
end Go.Proofs.YticonpjkcocgeaaDoor
