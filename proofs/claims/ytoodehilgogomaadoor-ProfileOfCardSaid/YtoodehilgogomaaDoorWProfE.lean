/- Walks of package profile and of its reference: lists that are made; Same. -/
import Derived.Test.YtoodehilgogomaaDoorWProf
import Derived.Test.YtoodehilgogomaaDoorWProfB
set_option linter.unusedVariables false
set_option linter.unusedSimpArgs false
namespace Go.Proofs.YtoodehilgogomaaDoor
open Go.ChangeShapes Go.WideShapes Go.ChangeAt Go.RowKit
open Sg

theorem seg_info : (Tryd.prog.info? 41).map (fun i => (i.zero, i.size, i.bytes)) = some (some (.agg #[.int .i64 0, .int .i64 0, .int .i64 0, .int .i64 0]), 4, 32) := by kernel_rfl
theorem OwnL.alloc {α : Type} {w : World} {base : Nat} {e : TypeId} {k : Nat} {enc : α → List Value} {v : Value} {xs : List α} (h : OwnL w base e k enc v xs) (o : Obj) : OwnL (w.alloc o) base e k enc v xs := World.ownsRow.alloc h o
open Classical in
noncomputable def sameL (a b : List Sgm) : Bool := decide (a = b)
theorem sameL_true {a b : List Sgm} : sameL a b = true ↔ a = b := by simp [sameL]
theorem sameL_false {a b : List Sgm} : sameL a b = false ↔ a ≠ b := by simp [sameL]
set_option maxHeartbeats 4000000 in
theorem same_any (A B : Option Addr) (p q : List Sgm) (c d : Nat) (w : World) (hm : p.length ≤ maxLen) (hm2 : q.length ≤ maxLen) (hr : Rd w A 4 Sgc p) (hr2 : Rd w B 4 Sgc q) :
    Calls Tryd.prog 8 #[.slice A p.length c, .slice B q.length d] w fun e w' => e = .returned (.bool (sameL p q)) ∧ Below w.heap.size w w' := by
  unfold maxLen at hm hm2
  have HR := Lib.hid hr
  have HR2 := Lib.hid hr2
  clear hr hr2
  by_cases hl : p.length = q.length
  · have hl' : ((p.length : Int) != (q.length : Int)) = false := by simp [hl]
    have HL := Lib.hid hl
    clear hl
    go_enter Tryd.func8, Tryd.ntmps8
    go_wp2
    go_loopg [13] p.length (fun g i wr => ∃ k : Nat, i = .int .i64 k ∧ k ≤ p.length ∧ g = p.length - k ∧ Hid (Below w.heap.size w wr ∧ ∀ j : Nat, j < k → p[j]? = q[j]?))
    case atStart => exact ⟨0, rfl, by omega, rfl, Below.refl _ _, fun j h => absurd h (by omega)⟩
    case round =>
      obtain ⟨k, rfl, hk, hg, H⟩ := hrel
      have HG := Lib.hid hg
      clear hg
      by_cases hlt : k < p.length
      · obtain ⟨b, off, s, rfl, hs, hbs, c0, c1, c2, c3⟩ := rd_seg HR.out H.out.1 hlt
        have hlt2 : k < q.length := by have := HL.out; omega
        obtain ⟨b', off', s', rfl, hs', hbs', d0, d1, d2, d3⟩ := rd_seg HR2.out H.out.1 hlt2
        by_cases he : s = s'
        · subst he
          have HN : Hid (∀ j : Nat, j < k + 1 → p[j]? = q[j]?) := fun j hj => by
            by_cases e : j = k
            · subst e; rw [hs, hs']
            · exact H.out.2 j (by omega)
          clear hs hs'
          go_wp2
          refine wp_region_after (by kernel_rfl) (by kernel_rfl) ?_
          repeat (first | go_big_quiet_step (fail))
          refine wpQuiet_nil ?_
          rintro _ ⟨y, rfl⟩
          go_wp2
          go_roundg (p.length - (k + 1))
          case measure => have := HG.out; omega
          case rel => exact ⟨k + 1, by go_num, by omega, rfl, H.out.1.trans (y.is.mono H.out.1.size), HN.out⟩
        · have HV := Lib.hid (sameL_false.2 (show p ≠ q from fun e => he (by rw [e, hs'] at hs; cases hs; rfl)))
          have key : (s.from_ == s'.from_) = false ∨ ((s.from_ == s'.from_) = true ∧ (s.to_ == s'.to_) = false) ∨ ((s.from_ == s'.from_) = true ∧ (s.to_ == s'.to_) = true ∧ (s.grade == s'.grade) = false) ∨ ((s.from_ == s'.from_) = true ∧ (s.to_ == s'.to_) = true ∧ (s.grade == s'.grade) = true ∧ (s.speed == s'.speed) = false) := by
            simp only [beq_iff_eq, beq_eq_false_iff_ne]
            refine Classical.byContradiction fun h => he (Sgm.eq ?_ ?_ ?_ ?_) <;> omega
          clear hs hs' he
          rcases key with k1 | ⟨k1, k2⟩ | ⟨k1, k2, k3⟩ | ⟨k1, k2, k3, k4⟩
          all_goals go_wp2
          all_goals refine wp_region_after (by kernel_rfl) (by kernel_rfl) ?_
          all_goals repeat (first | go_big_quiet_step (fail))
          all_goals refine wpQuiet_nil ?_
          all_goals rintro _ ⟨y, rfl⟩
          all_goals go_wp2
          all_goals go_ret
          all_goals exact ⟨ret_bool HV.out.symm, H.out.1.trans (y.is.mono H.out.1.size)⟩
      · have HV := Lib.hid (sameL_true.2 (show p = q from List.ext_getElem? fun j => by
          by_cases hj : j < k
          · exact H.out.2 j hj
          · rw [List.getElem?_eq_none (by omega), List.getElem?_eq_none (by have := HL.out; omega)]))
        go_wp2
        go_ret
        exact ⟨ret_bool HV.out.symm, H.out.1⟩
  · have hl' : ((p.length : Int) != (q.length : Int)) = true := by simp; omega
    have HV := Lib.hid (sameL_false.2 (show p ≠ q from fun e => hl (by rw [e])))
    clear hl
    go_enter Tryd.func8, Tryd.ntmps8
    go_wp2
    go_ret
    exact ⟨ret_bool HV.out.symm, Below.refl _ _⟩
noncomputable def touT (p : List Sgm) (f t : Int) (k : Nat) : List Sgm := if validB p = true then (p.take k).filter (touchB f t) else []
theorem touT_len (p : List Sgm) (f t : Int) (k : Nat) : (touT p f t k).length ≤ k := by
  unfold touT; split
  · have := List.length_filter_le (touchB f t) (p.take k); simp at this; omega
  · simp
end Go.Proofs.YtoodehilgogomaaDoor
