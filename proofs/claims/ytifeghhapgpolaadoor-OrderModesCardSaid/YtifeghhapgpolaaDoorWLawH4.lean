/- Chapter 44: OrderModes. -/
import Derived.Test.YtifeghhapgpolaaDoorWLawH
import Derived.Test.YtifeghhapgpolaaDoorTab
import Derived.LaidMore
set_option linter.unusedVariables false
set_option linter.unusedSimpArgs false
namespace Go.Proofs.YtifeghhapgpolaaDoor
open Go.ChangeShapes Go.WideShapes Go.ChangeAt Go.RowKit

/-- What the walk reads of the two tables. -/
structure Tabs (w : World) : Prop where
  t12 : w.cell? ⟨0, 12, none⟩ = some (.int .i64 3)
  t13 : w.cell? ⟨0, 13, none⟩ = some (.int .i64 4)
  t14 : w.cell? ⟨0, 14, none⟩ = some (.int .i64 5)
  l3 : w.cell? ⟨1, 3, none⟩ = some (.int .i64 1100)
  l4 : w.cell? ⟨1, 4, none⟩ = some (.int .i64 800)
  l5 : w.cell? ⟨1, 5, none⟩ = some (.int .i64 2200)

theorem drop_take_get {cs : List Value} {a k j : Nat} {zs : List Value} (h : (cs.drop a).take k = zs) (hj : j < k) (v : Value) (hz : zs[j]? = some v) : cs[a + j]? = some v := by
  subst h
  rw [List.getElem?_take_of_lt hj, List.getElem?_drop] at hz
  exact hz

theorem g0 : Tryd.prog.globalNamed "signalling/modes.transitions" = some 0 := by kernel_rfl
theorem g1 : Tryd.prog.globalNamed "signalling/modes.limits" = some 1 := by kernel_rfl
theorem gt0 : (Tryd.prog.globals[0]?).map (·.type) = some 28 := by kernel_rfl
theorem gt1 : (Tryd.prog.globals[1]?).map (·.type) = some 27 := by kernel_rfl
theorem of_laid {W : World} (h : laidMetH Tryd.prog Rows.orderModesRow.laid W) : Tabs W := by
  rw [MakeChecks.laidMetH_plain _ _ _ (by kernel_rfl)] at h
  obtain ⟨ps, ⟨h0, t0, cs0, f0, p0, q0, hg0, ht0, hv0, hd0, ⟨h1, t1, cs1, f1, p1, q1, hg1, ht1, hv1, hd1, _, _⟩, _⟩, _, _⟩ := h
  obtain rfl := Option.some.inj (g0.symm.trans hg0)
  obtain rfl := Option.some.inj (g1.symm.trans hg1)
  obtain rfl := Option.some.inj (gt0.symm.trans ht0)
  obtain rfl := Option.some.inj (gt1.symm.trans ht1)
  have c3 : Tryd.prog.cellsOf 3 = 1 := by kernel_rfl
  have c27 : Tryd.prog.cellsOf 27 = 8 := by kernel_rfl
  have a1 := trod_rows (zss := [[0, 0, 0, 0, 0, 0, 0, 0], [0, 2, 0, 0, 3, 4, 5, 0], [0, 2, 6, 0, 3, 0, 5, 1], [0, 2, 6, 0, 0, 0, 0, 1], [0, 0, 6, 0, 0, 0, 0, 1], [0, 2, 6, 0, 0, 0, 0, 1], [0, 0, 0, 7, 0, 0, 0, 0], [0, 2, 0, 0, 3, 4, 0, 1]]) Tryd.underlying28 Tryd.underlying27 Tryd.underlying3 c3 c27 hd0 rfl (i := 1) rfl
  have a2 := trod_row (zs := [0, 0, 10000, 1100, 800, 2200, 0, 0]) Tryd.underlying27 Tryd.underlying3 c3 c27 hd1 rfl
  have hc0 := fun k => World.var?_cell hg0 hv0 k
  have hc1 := fun k => World.var?_cell hg1 hv1 k
  have e1 : ∀ (k : Nat) v, cs1.toList[k]? = some v → W.cell? ⟨1, k, none⟩ = some v := fun k v h => by
    have := hc1 k
    simp only [Array.getElem?_toList] at h
    simpa [h] using this
  have e0 : ∀ (k : Nat) v, cs0.toList[k]? = some v → W.cell? ⟨0, k, none⟩ = some v := fun k v h => by
    have := hc0 k
    simp only [Array.getElem?_toList] at h
    simpa [h] using this
  exact ⟨e0 12 _ (drop_take_get a1 (j := 4) (by omega) _ rfl), e0 13 _ (drop_take_get a1 (j := 5) (by omega) _ rfl), e0 14 _ (drop_take_get a1 (j := 6) (by omega) _ rfl),
    e1 3 _ (by rw [a2]; rfl), e1 4 _ (by rw [a2]; rfl), e1 5 _ (by rw [a2]; rfl)⟩

theorem next_tab {ev m : Int} {w : World} (h : Tabs w) (hv : (ev = 4 ∧ m = 3) ∨ (ev = 5 ∧ m = 4) ∨ (ev = 6 ∧ m = 5)) :
    Calls Tryd.prog 5 #[.int .i64 1, .int .i64 ev] w fun e w' => e = .returned (.tuple #[.int .i64 m, .bool true]) ∧ w' = w := by
  have h12 := h.t12
  have h13 := h.t13
  have h14 := h.t14
  rcases hv with ⟨rfl, rfl⟩ | ⟨rfl, rfl⟩ | ⟨rfl, rfl⟩ <;>
  · go_enter Tryd.func5, Tryd.ntmps5
    go_wp2
    go_ret2
    exact ⟨rfl, rfl⟩
theorem next_none (w : World) :
    Calls Tryd.prog 5 #[.int .i64 1, .int .i64 0] w fun e w' => e = .returned (.tuple #[.int .i64 0, .bool false]) ∧ w' = w := by
  go_enter Tryd.func5, Tryd.ntmps5
  go_wp2
  go_ret2
  exact ⟨rfl, rfl⟩
theorem limit_tab {n m : Int} {w : World} (h : Tabs w) (hv : (m = 3 ∧ n = 1100) ∨ (m = 4 ∧ n = 800) ∨ (m = 5 ∧ n = 2200)) :
    Calls Tryd.prog 7 #[.int .i64 m] w fun e w' => e = .returned (.int .i64 n) ∧ w' = w := by
  have h12 := h.l3
  have h13 := h.l4
  have h14 := h.l5
  rcases hv with ⟨rfl, rfl⟩ | ⟨rfl, rfl⟩ | ⟨rfl, rfl⟩ <;>
  · go_enter Tryd.func7, Tryd.ntmps7
    go_wp2
    go_ret
    exact ⟨rfl, rfl⟩
theorem sup_any (m : Int) (w : World) :
    Calls Tryd.prog 8 #[.int .i64 m] w fun e w' => e = .returned (.bool (m == 2)) ∧ w' = w := by
  go_enter Tryd.func8, Tryd.ntmps8
  go_wp2
  go_ret
  exact ⟨rfl, rfl⟩
set_option maxHeartbeats 8000000 in
theorem law_modes (k : Int) {w : World} (h : Tabs w) :
    Calls Tryd.prog 3 #[.int .i64 k] w fun e w' => e = .returned (.bool true) ∧ Below w.heap.size w w' := by
  have HT := Lib.hid h
  clear h
  by_cases hk : k = 5 ∨ k = 6 ∨ k = 7
  · obtain ⟨ev, m, n, hev, hm, hn⟩ : ∃ ev m n : Int, Sg.evV k = ev ∧ ((ev = 4 ∧ m = 3) ∨ (ev = 5 ∧ m = 4) ∨ (ev = 6 ∧ m = 5)) ∧ ((m = 3 ∧ n = 1100) ∨ (m = 4 ∧ n = 800) ∨ (m = 5 ∧ n = 2200)) := by
      rcases hk with rfl | rfl | rfl
      · exact ⟨4, 3, 1100, rfl, by omega, by omega⟩
      · exact ⟨5, 4, 800, rfl, by omega, by omega⟩
      · exact ⟨6, 5, 2200, rfl, by omega, by omega⟩
    have m2 : (m == 2) = false := by simp; omega
    have m2' : (m != 2) = true := by simp; omega
    have n0 : decide ((0 : Int) < n) = true := by simp; omega
    have HM := Lib.hid hm
    have HN := Lib.hid hn
    have HV := Lib.hid hev
    clear hm hn hev
    rcases hk with rfl | rfl | rfl <;>
    · go_enter Tryd.func3, Tryd.ntmps3
      go_wp2_with fail
      refine (event_any _ _).mono ?_
      rintro e w' ⟨rfl, rfl⟩
      rw [HV.out]
      go_wp2_with fail
      refine (next_tab HT.out HM.out).mono ?_
      rintro e w' ⟨rfl, rfl⟩
      go_wp2_with fail
      refine (limit_tab HT.out HN.out).mono ?_
      rintro e w' ⟨rfl, rfl⟩
      go_wp2_with fail
      refine (sup_any m _).mono ?_
      rintro e w' ⟨rfl, rfl⟩
      go_wp2_with fail
      refine (alive_any _).mono ?_
      rintro e w' ⟨rfl, hb⟩
      go_wp2
      go_ret
      exact ⟨rfl, hb⟩
  · have b5 : (k != 5) = true := by simp; omega
    have b6 : (k != 6) = true := by simp; omega
    have b7 : (k != 7) = true := by simp; omega
    have HV : Hid (Sg.evV k = 0) := by show _ = _; unfold Sg.evV; rw [if_neg (by omega), if_neg (by omega), if_neg (by omega)]
    clear hk
    go_enter Tryd.func3, Tryd.ntmps3
    go_wp2_with fail
    refine (event_any _ _).mono ?_
    rintro e w' ⟨rfl, rfl⟩
    rw [HV.out]
    go_wp2_with fail
    refine (next_none _).mono ?_
    rintro e w' ⟨rfl, rfl⟩
    go_wp2_with fail
    refine (alive_any _).mono ?_
    rintro e w' ⟨rfl, hb⟩
    go_wp2
    go_ret
    exact ⟨rfl, hb⟩
end Go.Proofs.YtifeghhapgpolaaDoor
