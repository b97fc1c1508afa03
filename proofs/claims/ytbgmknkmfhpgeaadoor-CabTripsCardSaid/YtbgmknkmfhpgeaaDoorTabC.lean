/- The table of the modes' transitions out of what the cards lay. -/
import Derived.Test.YtbgmknkmfhpgeaaDoorWCabB
import Derived.Test.YtbgmknkmfhpgeaaDoorRows
import Derived.LaidMore
import Derived.Stop.Joined
set_option linter.unusedVariables false
set_option linter.unusedSimpArgs false
set_option maxRecDepth 100000
namespace Go.Proofs.YtbgmknkmfhpgeaaDoor
open Go.ChangeShapes Go.WideShapes Go.ChangeAt Go.RowKit
open Sg

theorem drop_take_get' {α : Type} {l m : List α} {i k j : Nat} {v : α} (h : (l.drop i).take k = m) (hj : m[j]? = some v) : l[i + j]? = some v := by
  subst h
  have hlt : j < k := by have := (List.getElem?_eq_some_iff.1 hj).1; simp at this; omega
  rw [List.getElem?_take_of_lt hlt, List.getElem?_drop] at hj
  exact hj
theorem g1 : Tryd.prog.globalNamed "signalling/modes.transitions" = some 1 := by kernel_rfl
theorem gt1 : (Tryd.prog.globals[1]?).map (·.type) = some 126 := by kernel_rfl
def rowsT : List (List Int) := [[0, 0, 0, 0, 0, 0, 0, 0], [0, 2, 0, 0, 3, 4, 5, 0], [0, 2, 6, 0, 3, 0, 5, 1], [0, 2, 6, 0, 0, 0, 0, 1], [0, 0, 6, 0, 0, 0, 0, 1], [0, 2, 6, 0, 0, 0, 0, 1], [0, 0, 0, 7, 0, 0, 0, 0], [0, 2, 0, 0, 3, 4, 0, 1]]
theorem rowsT_nx : ∀ m, m < 8 → ∀ e, e < 8 → ((rowsT.getD m []).getD e 0) = nxV (m : Nat) (e : Nat) := by decide
theorem of_laid {W : World} (h : laidMetH Tryd.prog Rows.cabEventsRow.laid W) : Tabs W := by
  rw [MakeChecks.laidMetH_plain _ _ _ (by kernel_rfl)] at h
  obtain ⟨ps, ⟨h0, t0, cs0, f0, p0, q0, hg0, ht0, hv0, hd0, _, _⟩, _, _⟩ := h
  obtain rfl := Option.some.inj (g1.symm.trans hg0)
  obtain rfl := Option.some.inj (gt1.symm.trans ht0)
  have c3 : Tryd.prog.cellsOf 3 = 1 := by kernel_rfl
  have cr : Tryd.prog.cellsOf 123 = 8 := by kernel_rfl
  have a := fun (i : Nat) (zs : List Int) => trod_rows (zss := rowsT) (i := i) (zs := zs) Tryd.underlying126 Tryd.underlying123 Tryd.underlying3 c3 cr hd0 rfl
  have hc0 := fun k => World.var?_cell hg0 hv0 k
  have e0 : ∀ (k : Nat) v, cs0.toList[k]? = some v → W.cell? ⟨1, k, none⟩ = some v := fun k v h => by
    have := hc0 k
    simp only [Array.getElem?_toList] at h
    simpa [h] using this
  have key : ∀ m e : Nat, m < 8 → e < 8 → W.cell? ⟨1, m * 8 + e, none⟩ = some (.int .i64 (nxV m e)) := fun m e hm he => by
    have hl : rowsT.length = 8 := rfl
    obtain ⟨zs, hz⟩ : ∃ zs, rowsT[m]? = some zs := ⟨_, List.getElem?_eq_getElem (by omega)⟩
    have hz8 : zs.length = 8 := by
      have : ∀ (i : Nat) x, rowsT[i]? = some x → x.length = 8 := by
        intro i x hx
        have hi : i < 8 := by have := (List.getElem?_eq_some_iff.1 hx).1; omega
        have ki : i = 0 ∨ i = 1 ∨ i = 2 ∨ i = 3 ∨ i = 4 ∨ i = 5 ∨ i = 6 ∨ i = 7 := by omega
        rcases ki with rfl | rfl | rfl | rfl | rfl | rfl | rfl | rfl <;> (cases hx; rfl)
      exact this m zs hz
    obtain ⟨z, hz2⟩ : ∃ z, zs[e]? = some z := ⟨_, List.getElem?_eq_getElem (by omega)⟩
    have hv : z = nxV m e := by
      have := rowsT_nx m hm e he
      rw [List.getD_eq_getElem?_getD, List.getD_eq_getElem?_getD, hz] at this
      simpa [hz2] using this
    rw [← hv]
    exact e0 _ _ (drop_take_get' (a m zs hz) (by rw [List.getElem?_map, hz2]; rfl))
  refine ⟨?_, key⟩
  have h1 := key 0 0 (by omega) (by omega)
  rcases Nat.lt_or_ge 1 W.heap.size with h2 | h2
  · exact h2
  · simp [World.cell?, Array.getElem?_eq_none h2] at h1
theorem of_laid2 {W : World} (h : laidMetH Tryd.prog Rows.cabTripsRow.laid W) : Tabs W := of_laid h
end Go.Proofs.YtbgmknkmfhpgeaaDoor
