/- Package-level tables of ints: what their cells hold, out of what they read as. -/
import Derived.Test.YticonpjkcocgeaaDoorKAll
import Derived.OpenShut
set_option linter.unusedVariables false
set_option linter.unusedSimpArgs false
namespace Go.Proofs.YticonpjkcocgeaaDoor
open Go.ChangeShapes Go.WideShapes Go.ChangeAt Go.RowKit

section
variable {H : Type} {enc : TypeId × Value → H} {P : Program} {w : World} {base : Nat} {spare : Nat → Bool} {held : Bool}
/-- A row of ints. -/
theorem trod_row {n m : Nat} {e t : TypeId} {cs : List Value} {x : DataW H × List MemPlace} {zs : List Int} (ht : P.underlying t = some (.array n e)) (he : P.underlying e = some (.int .i64)) (hc : P.cellsOf e = 1) (hct : P.cellsOf t = n)
    (h : DataW.trod enc P w base spare held m t cs = some x) (hx : x.1 = .agg (zs.map fun z => .lit (.int .i64 z))) : cs = zs.map (Value.int .i64) := by
  obtain ⟨xs, m1, rfl, rfl, hlen, hn, hel⟩ := DataW.trod_array ht h
  simp only [DataW.agg.injEq] at hx
  have hzl : zs.length = n := by have := congrArg List.length hx; simp at this; omega
  refine List.ext_getElem? fun i => ?_
  by_cases hi : i < n
  · have h1 := hel i hi
    rw [hc, Nat.mul_one] at h1
    have hlt : i < cs.length := by omega
    have hxl : i < xs.length := by omega
    rw [show (cs.drop i).take 1 = [cs[i]] from by rw [List.drop_eq_getElem_cons hlt]; rfl, List.getElem?_eq_getElem hxl] at h1
    obtain ⟨k, e1, e2, _⟩ := DataW.trod_int he h1
    have h3 : (xs.map (·.1))[i]? = some (.lit (.int .i64 k)) := by
      rw [List.getElem?_map, List.getElem?_eq_getElem hxl, e2]; rfl
    rw [hx, List.getElem?_map, List.getElem?_eq_getElem (by omega : i < zs.length)] at h3
    simp only [Option.map_some, Option.some.injEq, DataW.lit.injEq, Lit.int.injEq, true_and] at h3
    rw [List.getElem?_eq_getElem hlt, List.getElem?_map, List.getElem?_eq_getElem (by omega : i < zs.length)]
    simp only [List.cons.injEq, and_true] at e1
    rw [e1, h3]; rfl
  · rw [List.getElem?_eq_none (by omega), List.getElem?_eq_none (by simp; omega)]
/-- A table of rows: cell j of row i. -/
theorem trod_rows {n k m : Nat} {e r t : TypeId} {cs : List Value} {x : DataW H × List MemPlace} {zss : List (List Int)} (ht : P.underlying t = some (.array n r)) (hr : P.underlying r = some (.array k e)) (he : P.underlying e = some (.int .i64)) (hc : P.cellsOf e = 1) (hcr : P.cellsOf r = k)
    (h : DataW.trod enc P w base spare held m t cs = some x) (hx : x.1 = .agg (zss.map fun zs => .agg (zs.map fun z => .lit (.int .i64 z)))) {i : Nat} {zs : List Int} (hi : zss[i]? = some zs) : (cs.drop (i * k)).take k = zs.map (Value.int .i64) := by
  obtain ⟨xs, m1, rfl, rfl, hlen, hn, hel⟩ := DataW.trod_array ht h
  simp only [DataW.agg.injEq] at hx
  have hzl : zss.length = n := by have := congrArg List.length hx; simp at this; omega
  obtain ⟨hil, hie⟩ := List.getElem?_eq_some_iff.1 hi
  have h1 := hel i (by omega)
  have hxl : i < xs.length := by omega
  rw [hcr, List.getElem?_eq_getElem hxl] at h1
  refine trod_row hr he hc hcr h1 ?_
  have h3 : (xs.map (·.1))[i]? = some xs[i].1 := by rw [List.getElem?_map, List.getElem?_eq_getElem hxl]; rfl
  rw [hx, List.getElem?_map, hi] at h3
  exact (Option.some.inj h3).symm
end
end Go.Proofs.YticonpjkcocgeaaDoor
