/- Walk of rail.Need: its table lies in a package variable. -/
import Derived.Test.YtoodehilgogomaaDoorTLay
import Derived.WalkMore
import Derived.IntWalk
import Derived.Deep.MidRow
import Derived.Deep.Cut
set_option linter.unusedVariables false
set_option linter.unusedSimpArgs false
set_option maxRecDepth 100000
namespace Go.Proofs.YtoodehilgogomaaDoor
open Go.ChangeShapes Go.WideShapes Go.ChangeAt Go.RowKit
open Sg

/-- The rows of the table of the passages. -/
def rowsP : List (Int × Int × Int × Int) := [(1, 0, 1, 0), (1, 1, 0, 0), (2, 0, 1, 1), (2, 0, 2, 2), (2, 1, 0, 1), (2, 2, 0, 2), (3, 0, 1, 0), (3, 1, 0, 0), (3, 2, 3, 0), (3, 3, 2, 0)]
/-- The table, as it lies in memory. -/
def pasL : List Value := [.int .i64 1, .int .i64 0, .int .i64 1, .int .i64 0, .int .i64 1, .int .i64 1, .int .i64 0, .int .i64 0, .int .i64 2, .int .i64 0, .int .i64 1, .int .i64 1, .int .i64 2, .int .i64 0, .int .i64 2, .int .i64 2, .int .i64 2, .int .i64 1, .int .i64 0, .int .i64 1, .int .i64 2, .int .i64 2, .int .i64 0, .int .i64 2, .int .i64 3, .int .i64 0, .int .i64 1, .int .i64 0, .int .i64 3, .int .i64 1, .int .i64 0, .int .i64 0, .int .i64 3, .int .i64 2, .int .i64 3, .int .i64 0, .int .i64 3, .int .i64 3, .int .i64 2, .int .i64 0]
def pasV : Value := .agg pasL.toArray
/-- The package's table stands. -/
def Tabs (w : World) : Prop := 0 < w.heap.size ∧ ∀ j v, pasL[j]? = some v → w.cell? ⟨0, j, none⟩ = some v
theorem Tabs.keep {w w' : World} (h : Tabs w) (hb : Ext w w') : Tabs w' :=
  ⟨Nat.lt_of_lt_of_le h.1 hb.size, fun j v hj => (hb.cell (p := ⟨0, j, none⟩) h.1).trans (h.2 j v hj)⟩
theorem rows_at {P : Nat → Int → Int → Int → Int → Prop} (h : P 0 1 0 1 0 ∧ P 1 1 1 0 0 ∧ P 2 2 0 1 1 ∧ P 3 2 0 2 2 ∧ P 4 2 1 0 1 ∧ P 5 2 2 0 2 ∧ P 6 3 0 1 0 ∧ P 7 3 1 0 0 ∧ P 8 3 2 3 0 ∧ P 9 3 3 2 0) {j : Nat} {a b c n : Int} (hr : rowsP[j]? = some (a, b, c, n)) : P j a b c n := by
  have hj : j < 10 := (List.getElem?_eq_some_iff.1 hr).1
  have key : j = 0 ∨ j = 1 ∨ j = 2 ∨ j = 3 ∨ j = 4 ∨ j = 5 ∨ j = 6 ∨ j = 7 ∨ j = 8 ∨ j = 9 := by omega
  obtain ⟨h0, h1, h2, h3, h4, h5, h6, h7, h8, h9⟩ := h
  rcases key with rfl | rfl | rfl | rfl | rfl | rfl | rfl | rfl | rfl | rfl <;> (simp [rowsP] at hr; obtain ⟨rfl, rfl, rfl, rfl⟩ := hr; assumption)
theorem idx_pas {j : Nat} {a b c n : Int} (hr : rowsP[j]? = some (a, b, c, n)) (w : World) : (Instr.index 83 pasV (.int .i64 j)).run Tryd.prog w = .ok (.agg #[.int .i64 a, .int .i64 b, .int .i64 c, .int .i64 n]) w :=
  rows_at (P := fun j a b c n => (Instr.index 83 pasV (.int .i64 j)).run Tryd.prog w = .ok (.agg #[.int .i64 a, .int .i64 b, .int .i64 c, .int .i64 n]) w) ⟨rfl, rfl, rfl, rfl, rfl, rfl, rfl, rfl, rfl, rfl⟩ hr
theorem need_row {j : Nat} {a b c n : Int} (hr : rowsP[j]? = some (a, b, c, n)) : needO a b c = some n :=
  rows_at (P := fun j a b c n => needO a b c = some n) ⟨rfl, rfl, rfl, rfl, rfl, rfl, rfl, rfl, rfl, rfl⟩ hr
theorem need_none {k i o : Int} (h0 : ¬ (k = 1 ∧ i = 0 ∧ o = 1)) (h1 : ¬ (k = 1 ∧ i = 1 ∧ o = 0)) (h2 : ¬ (k = 2 ∧ i = 0 ∧ o = 1)) (h3 : ¬ (k = 2 ∧ i = 0 ∧ o = 2)) (h4 : ¬ (k = 2 ∧ i = 1 ∧ o = 0)) (h5 : ¬ (k = 2 ∧ i = 2 ∧ o = 0)) (h6 : ¬ (k = 3 ∧ i = 0 ∧ o = 1)) (h7 : ¬ (k = 3 ∧ i = 1 ∧ o = 0)) (h8 : ¬ (k = 3 ∧ i = 2 ∧ o = 3)) (h9 : ¬ (k = 3 ∧ i = 3 ∧ o = 2)) : needO k i o = none := by
  unfold needO
  rw [if_neg (by rintro ⟨rfl, ⟨rfl, rfl⟩ | ⟨rfl, rfl⟩⟩ <;> simp_all), if_neg (by rintro ⟨rfl, ⟨rfl, rfl⟩ | ⟨rfl, rfl⟩ | ⟨rfl, rfl⟩ | ⟨rfl, rfl⟩⟩ <;> simp_all), if_neg (by rintro ⟨rfl, ⟨rfl, rfl⟩ | ⟨rfl, rfl⟩⟩ <;> simp_all), if_neg (by rintro ⟨rfl, ⟨rfl, rfl⟩ | ⟨rfl, rfl⟩⟩ <;> simp_all)]
/-- No row ahead of j is the one. -/
def PasTo (k i o : Int) (j : Nat) : Prop := ∀ m a b c n, m < j → rowsP[m]? = some (a, b, c, n) → ¬ (k = a ∧ i = b ∧ o = c)
theorem PasTo.step {k i o : Int} {j : Nat} {a b c n : Int} (h : PasTo k i o j) (hr : rowsP[j]? = some (a, b, c, n)) (hn : ¬ (k = a ∧ i = b ∧ o = c)) : PasTo k i o (j + 1) := fun m a' b' c' n' hm hr' => by
  by_cases e : m = j
  · subst e; rw [hr] at hr'; cases hr'; exact hn
  · exact h m a' b' c' n' (by omega) hr'
theorem PasTo.none {k i o : Int} (h : PasTo k i o 10) : needO k i o = none :=
  need_none (h 0 _ _ _ _ (by omega) rfl) (h 1 _ _ _ _ (by omega) rfl) (h 2 _ _ _ _ (by omega) rfl) (h 3 _ _ _ _ (by omega) rfl) (h 4 _ _ _ _ (by omega) rfl) (h 5 _ _ _ _ (by omega) rfl) (h 6 _ _ _ _ (by omega) rfl) (h 7 _ _ _ _ (by omega) rfl) (h 8 _ _ _ _ (by omega) rfl) (h 9 _ _ _ _ (by omega) rfl)
theorem rows_get {j : Nat} (h : j < 10) : ∃ a b c n, rowsP[j]? = some (a, b, c, n) := by
  obtain ⟨⟨a, b, c, n⟩, hr⟩ : ∃ r, rowsP[j]? = some r := ⟨_, List.getElem?_eq_getElem (show j < rowsP.length from h)⟩
  exact ⟨a, b, c, n, hr⟩
theorem ret_ib {a b : Int} {c d : Bool} (h : a = b) (g : c = d) : Ending.returned (.tuple #[.int .i64 a, .bool c]) = .returned (.tuple #[.int .i64 b, .bool d]) := by rw [h, g]
set_option maxHeartbeats 8000000 in
theorem need_any (k i o : Int) (w : World) (hT : Tabs w) : Calls Tryd.prog 20 #[.int .i64 k, .int .i64 i, .int .i64 o] w fun e w' => e = .returned (.tuple #[.int .i64 (needV k i o), .bool (needB k i o)]) ∧ Below w.heap.size w w' := by
  have HT : Hid (Tabs w) := hT
  clear hT
  go_enter Tryd.func20, Tryd.ntmps20
  go_upto_region 1 with (fail)
  apply wp_region_lit
  refine wpList_load_mid rfl 83 _ rfl 0 0 rfl pasL _ (fun j v hj => by rw [Nat.zero_add]; exact HT.out.2 j v hj) Tryd.underlying83 rfl (by kernel_rfl) ?_
  have hpv : Value.agg pasL.toArray = pasV := rfl
  rw [hpv]
  clear HT hpv
  go_wp2
  go_loopg [11] 10 (fun g ix wr => ∃ j : Nat, ix = .int .i64 j ∧ j ≤ 10 ∧ g = 10 - j ∧ Hid (Ext w wr ∧ PasTo k i o j))
  case atStart => exact ⟨0, rfl, by omega, rfl, Ext.refl _, fun m a b c n hm => absurd hm (by omega)⟩
  case round =>
    obtain ⟨j, rfl, hj, hg, H⟩ := hrel
    have HG := Lib.hid hg
    clear hg
    by_cases hlt : j < 10
    · obtain ⟨a, b, c, n, hr⟩ := rows_get hlt
      have HR := Lib.hid hr
      have hx := idx_pas hr wr
      clear hr
      by_cases q1 : k = a
      · subst q1
        by_cases q2 : i = b
        · subst q2
          by_cases q3 : o = c
          · subst q3
            have HN : Hid (needO k i o = some n) := need_row HR.out
            go_wp2
            go_ret2
            exact ⟨ret_ib (by rw [needV, HN.out]; rfl) (by rw [needB, HN.out]; rfl), eal H.out.1 _⟩
          · have HN : Hid (PasTo k i o (j + 1)) := H.out.2.step HR.out (fun h => q3 h.2.2)
            have p3 : (c == o) = false := by simp; omega
            clear q3
            go_wp2
            go_roundg (10 - (j + 1))
            case measure => have := HG.out; omega
            case rel => exact ⟨j + 1, rfl, by omega, rfl, eal H.out.1 _, HN.out⟩
        · have HN : Hid (PasTo k i o (j + 1)) := H.out.2.step HR.out (fun h => q2 h.2.1)
          have p2 : (b == i) = false := by simp; omega
          clear q2
          go_wp2
          go_roundg (10 - (j + 1))
          case measure => have := HG.out; omega
          case rel => exact ⟨j + 1, rfl, by omega, rfl, eal H.out.1 _, HN.out⟩
      · have HN : Hid (PasTo k i o (j + 1)) := H.out.2.step HR.out (fun h => q1 h.1)
        have p1 : (a == k) = false := by simp; omega
        clear q1
        go_wp2
        go_roundg (10 - (j + 1))
        case measure => have := HG.out; omega
        case rel => exact ⟨j + 1, rfl, by omega, rfl, eal H.out.1 _, HN.out⟩
    · have e : j = 10 := by omega
      subst e
      have HN : Hid (needO k i o = none) := H.out.2.none
      go_wp2
      go_ret2
      exact ⟨ret_ib (by rw [needV, HN.out]; rfl) (by rw [needB, HN.out]; rfl), H.out.1⟩
end Go.Proofs.YtoodehilgogomaaDoor
