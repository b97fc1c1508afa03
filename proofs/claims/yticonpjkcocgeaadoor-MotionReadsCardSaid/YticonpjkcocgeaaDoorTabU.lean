/- Printed by gen_openu.py out of XTabS. A package-level table whose rows are structs of ints; the table of the passages out of what the card lays. -/
import Derived.Test.YticonpjkcocgeaaDoorTab
import Derived.Test.YticonpjkcocgeaaDoorOpenU
import Derived.Test.YticonpjkcocgeaaDoorWLays
import Derived.Test.YticonpjkcocgeaaDoorTie
import Derived.Test.YticonpjkcocgeaaDoorRows
import Derived.LaidMore
import Derived.Stop.Joined
set_option linter.unusedVariables false
set_option linter.unusedSimpArgs false
set_option maxRecDepth 100000
namespace Go.Proofs.YticonpjkcocgeaaDoor
open Go.ChangeShapes Go.WideShapes Go.ChangeAt Go.RowKit
open Sg

section
variable {H : Type} {enc : TypeId × Value → H} {P : Program} {w : World} {base : Nat} {spare : Nat → Bool} {held : Bool}
theorem trod_srow {n m : Nat} {e t : TypeId} {fs : Array Field} {cs : List Value} {x : DataW H × List MemPlace} {zs : List Int} (ht : P.underlying t = some (.struct fs)) (hfs : ∀ (i : Nat) (f : Field), fs[i]? = some f → f.type = e ∧ f.offset = i) (hn : fs.size = n) (he : P.underlying e = some (.int .i64)) (hc : P.cellsOf e = 1) (hct : P.cellsOf t = n)
    (h : DataW.trod enc P w base spare held m t cs = some x) (hx : x.1 = .agg (zs.map fun z => .lit (.int .i64 z))) : cs = zs.map (Value.int .i64) := by
  obtain ⟨xs, m1, rfl, rfl, hlen, hsz, hel⟩ := DataW.trod_struct ht h
  simp only [DataW.agg.injEq] at hx
  have hzl : zs.length = n := by have := congrArg List.length hx; simp at this; omega
  refine List.ext_getElem? fun i => ?_
  by_cases hi : i < n
  · obtain ⟨f, hf⟩ : ∃ f, fs[i]? = some f := ⟨_, Array.getElem?_eq_getElem (by omega)⟩
    have h1 := hel i f hf
    obtain ⟨hf1, hf2⟩ := hfs i f hf
    rw [hf1, hf2, hc] at h1
    have hlt : i < cs.length := by omega
    have hxl : i < xs.length := by omega
    rw [show (cs.drop i).take 1 = [cs[i]] from by rw [List.drop_eq_getElem_cons hlt]; rfl, List.getElem?_eq_getElem hxl] at h1
    obtain ⟨k, e1, e2, _⟩ := DataW.trod_int he h1
    have h3 : (xs.map (·.1))[i]? = some (.lit (.int .i64 k)) := by
      rw [List.getElem?_map, List.getElem?_eq_getElem hxl, e2]; rfl
    rw [hx, List.getElem?_map, List.getElem?_eq_getElem (by omega : i < zs.length)] at h3
    simp only [Option.map_some, Option.some.injEq, DataW.lit.injEq, Lit.int.injEq, true_and] at h3
    rw [List.getElem?_eq_getElem hlt, List.getElem?_map, List.getElem?_eq_getElem (by omega : i < zs.length)]
    simp only [List.cons.injEq, and_true] at e1
    rw [e1, h3]; rfl
  · rw [List.getElem?_eq_none (by omega), List.getElem?_eq_none (by simp; omega)]
theorem trod_srows {n k m : Nat} {e r t : TypeId} {fs : Array Field} {cs : List Value} {x : DataW H × List MemPlace} {zss : List (List Int)} (ht : P.underlying t = some (.array n r)) (hr : P.underlying r = some (.struct fs)) (hfs : ∀ (i : Nat) (f : Field), fs[i]? = some f → f.type = e ∧ f.offset = i) (hk : fs.size = k) (he : P.underlying e = some (.int .i64)) (hc : P.cellsOf e = 1) (hcr : P.cellsOf r = k)
    (h : DataW.trod enc P w base spare held m t cs = some x) (hx : x.1 = .agg (zss.map fun zs => .agg (zs.map fun z => .lit (.int .i64 z)))) {i : Nat} {zs : List Int} (hi : zss[i]? = some zs) : (cs.drop (i * k)).take k = zs.map (Value.int .i64) := by
  obtain ⟨xs, m1, rfl, rfl, hlen, hn, hel⟩ := DataW.trod_array ht h
  simp only [DataW.agg.injEq] at hx
  have hzl : zss.length = n := by have := congrArg List.length hx; simp at this; omega
  obtain ⟨hil, hie⟩ := List.getElem?_eq_some_iff.1 hi
  have h1 := hel i (by omega)
  have hxl : i < xs.length := by omega
  rw [hcr, List.getElem?_eq_getElem hxl] at h1
  refine trod_srow hr hfs hk he hc hcr h1 ?_
  have h3 : (xs.map (·.1))[i]? = some xs[i].1 := by rw [List.getElem?_map, List.getElem?_eq_getElem hxl]; rfl
  rw [hx, List.getElem?_map, hi] at h3
  exact (Option.some.inj h3).symm
end
theorem drop_take_get' {α : Type} {l m : List α} {i k j : Nat} {v : α} (h : (l.drop i).take k = m) (hj : m[j]? = some v) : l[i + j]? = some v := by
  subst h
  have hlt : j < k := by have := (List.getElem?_eq_some_iff.1 hj).1; simp at this; omega
  rw [List.getElem?_take_of_lt hlt, List.getElem?_drop] at hj
  exact hj
theorem g0 : Tryd.prog.globalNamed "signalling/rail.passages" = some 0 := by kernel_rfl
theorem gt0 : (Tryd.prog.globals[0]?).map (·.type) = some 150 := by kernel_rfl
theorem of_laid {W : World} (h : laidMetH Tryd.prog Rows.motionStepsRow.laid W) : Tabs W := by
  rw [MakeChecks.laidMetH_plain _ _ _ (by kernel_rfl)] at h
  obtain ⟨ps, ⟨h0, t0, cs0, f0, p0, q0, hg0, ht0, hv0, hd0, _, _⟩, _, _⟩ := h
  obtain rfl := Option.some.inj (g0.symm.trans hg0)
  obtain rfl := Option.some.inj (gt0.symm.trans ht0)
  have c3 : Tryd.prog.cellsOf 3 = 1 := by kernel_rfl
  have cr : Tryd.prog.cellsOf 149 = 4 := by kernel_rfl
  have a := fun (i : Nat) (zs : List Int) => trod_srows (zss := [[1, 0, 1, 0], [1, 1, 0, 0], [2, 0, 1, 1], [2, 0, 2, 2], [2, 1, 0, 1], [2, 2, 0, 2], [3, 0, 1, 0], [3, 1, 0, 0], [3, 2, 3, 0], [3, 3, 2, 0]]) (i := i) (zs := zs) Tryd.underlying150 Tryd.underlying149 (e := 3) (fun i f hf => by
    have hi : i < 4 := (Array.getElem?_eq_some_iff.1 hf).1
    have key : i = 0 ∨ i = 1 ∨ i = 2 ∨ i = 3 := by omega
    rcases key with rfl | rfl | rfl | rfl <;> (simp at hf; subst hf; exact ⟨rfl, rfl⟩)) rfl Tryd.underlying3 c3 cr hd0 rfl
  have hc0 := fun k => World.var?_cell hg0 hv0 k
  have e0 : ∀ (k : Nat) v, cs0.toList[k]? = some v → W.cell? ⟨0, k, none⟩ = some v := fun k v h => by
    have := hc0 k
    simp only [Array.getElem?_toList] at h
    simpa [h] using this
  have hsz : 0 < W.heap.size := by
    have h1 := e0 0 (.int .i64 1) (drop_take_get' (i := 0) (j := 0) (a 0 _ rfl) rfl)
    have := hc0 0
    rcases Nat.eq_zero_or_pos W.heap.size with h2 | h2
    · simp [World.cell?, h2] at h1
    · exact h2
  refine ⟨hsz, fun j v hj => e0 j v ?_⟩
  have hlt : j < 40 := (List.getElem?_eq_some_iff.1 hj).1
  obtain ⟨i, m, hm, rfl⟩ : ∃ i m, m < 4 ∧ j = i * 4 + m := ⟨j / 4, j % 4, Nat.mod_lt _ (by decide), by omega⟩
  have hi : i < 10 := by omega
  have ki : i = 0 ∨ i = 1 ∨ i = 2 ∨ i = 3 ∨ i = 4 ∨ i = 5 ∨ i = 6 ∨ i = 7 ∨ i = 8 ∨ i = 9 := by omega
  have km : m = 0 ∨ m = 1 ∨ m = 2 ∨ m = 3 := by omega
  rcases ki with rfl | rfl | rfl | rfl | rfl | rfl | rfl | rfl | rfl | rfl <;> rcases km with rfl | rfl | rfl | rfl <;> (cases hj; exact drop_take_get' (a _ _ rfl) rfl)
end Go.Proofs.YticonpjkcocgeaaDoor
