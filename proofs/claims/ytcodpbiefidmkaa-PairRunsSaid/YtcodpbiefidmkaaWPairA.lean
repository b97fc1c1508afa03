/- Walks of package pair and of its reference: Same. -/
import Derived.Test.YtcodpbiefidmkaaTPair
set_option linter.unusedVariables false
set_option linter.unusedSimpArgs false
namespace Go.Proofs.Ytcodpbiefidmkaa
open Go.ChangeShapes Go.WideShapes Go.ChangeAt Go.RowKit
open Sg

open Classical in
noncomputable def sml_pr (a b : List Prq) : Bool := decide (a = b)
theorem sml_pr_true {a b : List Prq} : sml_pr a b = true ↔ a = b := by simp [sml_pr]
theorem sml_pr_false {a b : List Prq} : sml_pr a b = false ↔ a ≠ b := by simp [sml_pr]
theorem dif_pr {s s' : Prq} (h : s ≠ s') : ((s.kind == s'.kind) = false) ∨ ((s.kind == s'.kind) = true ∧ (s.subject == s'.subject) = false) ∨ ((s.kind == s'.kind) = true ∧ (s.subject == s'.subject) = true ∧ (s.since == s'.since) = false) ∨ ((s.kind == s'.kind) = true ∧ (s.subject == s'.subject) = true ∧ (s.since == s'.since) = true ∧ (s.by_.toList == s'.by_.toList) = false) := by
  refine Classical.byContradiction fun hn => h ?_
  simp only [not_or, not_and, Bool.not_eq_false] at hn
  obtain ⟨e0, e1, e2, e3⟩ := hn
  have f0 := e0
  have f1 := e1 f0
  have f2 := e2 f0 f1
  have f3 := e3 f0 f1 f2
  exact Prq.eq (eq_of_beq f0) (eq_of_beq f1) (eq_of_beq f2) (str_eq (eq_of_beq f3))
set_option maxHeartbeats 4000000 in
theorem same_pr (A B : Option Addr) (p q : List Prq) (c d : Nat) (w : World) (hm : p.length ≤ maxLen) (hm2 : q.length ≤ maxLen) (hr : Rd w A 4 Prc p) (hr2 : Rd w B 4 Prc q) :
    Calls Try.prog 12 #[.slice A p.length c, .slice B q.length d] w fun e w' => e = .returned (.bool (sml_pr p q)) ∧ Below w.heap.size w w' := by
  unfold maxLen at hm hm2
  have HR := Lib.hid hr
  have HR2 := Lib.hid hr2
  clear hr hr2
  by_cases hl : p.length = q.length
  · have hl' : ((p.length : Int) != (q.length : Int)) = false := by simp [hl]
    have HL := Lib.hid hl
    clear hl
    go_enter Try.func12, Try.ntmps12
    go_wp2
    go_loopg [5] p.length (fun g i wr => ∃ k : Nat, i = .int .i64 k ∧ k ≤ p.length ∧ g = p.length - k ∧ Hid (Below w.heap.size w wr ∧ ∀ j : Nat, j < k → p[j]? = q[j]?))
    case atStart => exact ⟨0, rfl, by omega, rfl, Below.refl _ _, fun j h => absurd h (by omega)⟩
    case round =>
      obtain ⟨k, rfl, hk, hg, H⟩ := hrel
      have HG := Lib.hid hg
      clear hg
      by_cases hlt : k < p.length
      · obtain ⟨b, off, s, rfl, hs, hbs, c0, c1, c2, c3⟩ := rd_pr HR.out H.out.1 hlt
        have hlt2 : k < q.length := by have := HL.out; omega
        obtain ⟨b', off', s', rfl, hs', hbs', d0, d1, d2, d3⟩ := rd_pr HR2.out H.out.1 hlt2
        by_cases he : s = s'
        · subst he
          have HN : Hid (∀ j : Nat, j < k + 1 → p[j]? = q[j]?) := fun j hj => by
            by_cases e : j = k
            · subst e; rw [hs, hs']
            · exact H.out.2 j (by omega)
          clear hs hs'
          go_wp2
          refine wp_region_after (by kernel_rfl) (by kernel_rfl) ?_
          repeat (first | go_big_quiet_step (fail))
          refine wpQuiet_nil ?_
          rintro _ ⟨y, rfl⟩
          go_wp2
          go_roundg (p.length - (k + 1))
          case measure => have := HG.out; omega
          case rel => exact ⟨k + 1, by go_num, by omega, rfl, H.out.1.trans (y.is.mono H.out.1.size), HN.out⟩
        · have HV := Lib.hid (sml_pr_false.2 (show p ≠ q from fun e => he (by rw [e, hs'] at hs; cases hs; rfl)))
          have key := dif_pr he
          clear hs hs' he
          rcases key with q0 | ⟨q0, q1⟩ | ⟨q0, q1, q2⟩ | ⟨q0, q1, q2, q3⟩
          all_goals go_wp2
          all_goals refine wp_region_after (by kernel_rfl) (by kernel_rfl) ?_
          all_goals repeat (first | go_big_quiet_step (fail))
          all_goals refine wpQuiet_nil ?_
          all_goals rintro _ ⟨y, rfl⟩
          all_goals go_wp2
          all_goals go_ret
          all_goals exact ⟨ret_bool HV.out.symm, H.out.1.trans (y.is.mono H.out.1.size)⟩
      · have HV := Lib.hid (sml_pr_true.2 (show p = q from List.ext_getElem? fun j => by
          by_cases hj : j < k
          · exact H.out.2 j hj
          · rw [List.getElem?_eq_none (by omega), List.getElem?_eq_none (by have := HL.out; omega)]))
        go_wp2
        go_ret
        exact ⟨ret_bool HV.out.symm, H.out.1⟩
  · have hl' : ((p.length : Int) != (q.length : Int)) = true := by simp; omega
    have HV := Lib.hid (sml_pr_false.2 (show p ≠ q from fun e => hl (by rw [e])))
    clear hl
    go_enter Try.func12, Try.ntmps12
    go_wp2
    go_ret
    exact ⟨ret_bool HV.out.symm, Below.refl _ _⟩
end Go.Proofs.Ytcodpbiefidmkaa
