/- Walks of package restriction and of its reference: the searches, Same. -/
import Derived.Test.YtacnfchoemndeaaDoorWRstA
set_option linter.unusedVariables false
set_option linter.unusedSimpArgs false
set_option maxRecDepth 100000
namespace Go.Proofs.YtacnfchoemndeaaDoor
open Go.ChangeShapes Go.WideShapes Go.ChangeAt Go.RowKit
open Sg

open Classical in
noncomputable def sml_rs (a b : List Rst) : Bool := decide (a = b)
theorem sml_rs_true {a b : List Rst} : sml_rs a b = true ↔ a = b := by simp [sml_rs]
theorem sml_rs_false {a b : List Rst} : sml_rs a b = false ↔ a ≠ b := by simp [sml_rs]
theorem dif_rs {s s' : Rst} (h : s ≠ s') : ((s.id == s'.id) = false) ∨ ((s.id == s'.id) = true ∧ (s.el == s'.el) = false) ∨ ((s.id == s'.id) = true ∧ (s.el == s'.el) = true ∧ (s.from_ == s'.from_) = false) ∨ ((s.id == s'.id) = true ∧ (s.el == s'.el) = true ∧ (s.from_ == s'.from_) = true ∧ (s.to_ == s'.to_) = false) ∨ ((s.id == s'.id) = true ∧ (s.el == s'.el) = true ∧ (s.from_ == s'.from_) = true ∧ (s.to_ == s'.to_) = true ∧ (s.speed == s'.speed) = false) ∨ ((s.id == s'.id) = true ∧ (s.el == s'.el) = true ∧ (s.from_ == s'.from_) = true ∧ (s.to_ == s'.to_) = true ∧ (s.speed == s'.speed) = true ∧ (s.act == s'.act) = false) := by
  refine Classical.byContradiction fun hn => h ?_
  simp only [not_or, not_and, Bool.not_eq_false] at hn
  obtain ⟨e0, e1, e2, e3, e4, e5⟩ := hn
  have f0 := e0
  have f1 := e1 f0
  have f2 := e2 f0 f1
  have f3 := e3 f0 f1 f2
  have f4 := e4 f0 f1 f2 f3
  have f5 := e5 f0 f1 f2 f3 f4
  exact Rst.eq (eq_of_beq f0) (eq_of_beq f1) (eq_of_beq f2) (eq_of_beq f3) (eq_of_beq f4) (eq_of_beq f5)
set_option maxHeartbeats 4000000 in
theorem same_rs (A B : Option Addr) (p q : List Rst) (c d : Nat) (w : World) (hm : p.length ≤ maxLen) (hm2 : q.length ≤ maxLen) (hr : Rd w A 6 Rsc p) (hr2 : Rd w B 6 Rsc q) :
    Calls Tryd.prog 14 #[.slice A p.length c, .slice B q.length d] w fun e w' => e = .returned (.bool (sml_rs p q)) ∧ Below w.heap.size w w' := by
  unfold maxLen at hm hm2
  have HR := Lib.hid hr
  have HR2 := Lib.hid hr2
  clear hr hr2
  by_cases hl : p.length = q.length
  · have hl' : ((p.length : Int) != (q.length : Int)) = false := by simp [hl]
    have HL := Lib.hid hl
    clear hl
    go_enter Tryd.func14, Tryd.ntmps14
    go_wp2
    go_loopg [13] p.length (fun g i wr => ∃ k : Nat, i = .int .i64 k ∧ k ≤ p.length ∧ g = p.length - k ∧ Hid (Below w.heap.size w wr ∧ ∀ j : Nat, j < k → p[j]? = q[j]?))
    case atStart => exact ⟨0, rfl, by omega, rfl, Below.refl _ _, fun j h => absurd h (by omega)⟩
    case round =>
      obtain ⟨k, rfl, hk, hg, H⟩ := hrel
      have HG := Lib.hid hg
      clear hg
      by_cases hlt : k < p.length
      · obtain ⟨b, off, s, rfl, hs, hbs, c0, c1, c2, c3, c4, c5⟩ := rd_rs HR.out H.out.1 hlt
        have hlt2 : k < q.length := by have := HL.out; omega
        obtain ⟨b', off', s', rfl, hs', hbs', d0, d1, d2, d3, d4, d5⟩ := rd_rs HR2.out H.out.1 hlt2
        by_cases he : s = s'
        · subst he
          have HN : Hid (∀ j : Nat, j < k + 1 → p[j]? = q[j]?) := fun j hj => by
            by_cases e : j = k
            · subst e; rw [hs, hs']
            · exact H.out.2 j (by omega)
          clear hs hs'
          go_wp2
          refine wp_region_after (by kernel_rfl) (by kernel_rfl) ?_
          repeat (first | go_big_quiet_step (fail))
          refine wpQuiet_nil ?_
          rintro _ ⟨y, rfl⟩
          go_wp2
          go_roundg (p.length - (k + 1))
          case measure => have := HG.out; omega
          case rel => exact ⟨k + 1, by go_num, by omega, rfl, H.out.1.trans (y.is.mono H.out.1.size), HN.out⟩
        · have HV := Lib.hid (sml_rs_false.2 (show p ≠ q from fun e => he (by rw [e, hs'] at hs; cases hs; rfl)))
          have key := dif_rs he
          clear hs hs' he
          rcases key with q0 | ⟨q0, q1⟩ | ⟨q0, q1, q2⟩ | ⟨q0, q1, q2, q3⟩ | ⟨q0, q1, q2, q3, q4⟩ | ⟨q0, q1, q2, q3, q4, q5⟩
          all_goals go_wp2
          all_goals refine wp_region_after (by kernel_rfl) (by kernel_rfl) ?_
          all_goals repeat (first | go_big_quiet_step (fail))
          all_goals refine wpQuiet_nil ?_
          all_goals rintro _ ⟨y, rfl⟩
          all_goals go_wp2
          all_goals go_ret
          all_goals exact ⟨ret_bool HV.out.symm, H.out.1.trans (y.is.mono H.out.1.size)⟩
      · have HV := Lib.hid (sml_rs_true.2 (show p = q from List.ext_getElem? fun j => by
          by_cases hj : j < k
          · exact H.out.2 j hj
          · rw [List.getElem?_eq_none (by omega), List.getElem?_eq_none (by have := HL.out; omega)]))
        go_wp2
        go_ret
        exact ⟨ret_bool HV.out.symm, H.out.1⟩
  · have hl' : ((p.length : Int) != (q.length : Int)) = true := by simp; omega
    have HV := Lib.hid (sml_rs_false.2 (show p ≠ q from fun e => hl (by rw [e])))
    clear hl
    go_enter Tryd.func14, Tryd.ntmps14
    go_wp2
    go_ret
    exact ⟨ret_bool HV.out.symm, Below.refl _ _⟩
theorem hit_rs (k : Int) (p : Rst) (b4 : Nat) (w : World) (h4 : w.cell? ⟨b4, 0, none⟩ = some (.int .i64 k)) (l4 : b4 < w.heap.size) :
    Calls Tryd.prog 44 #[.agg #[.int .i64 p.id, .int .i64 p.el, .int .i64 p.from_, .int .i64 p.to_, .int .i64 p.speed, .bool p.act], .pointer (some ⟨b4, 0, none⟩)] w fun e w' => e = .returned (.bool (hitR k p)) ∧ Below w.heap.size w w' := by
  have HE : Hid (hitR k p = (p.id == k)) := rfl
  go_enter Tryd.func44, Tryd.ntmps44
  go_wp2
  go_ret
  exact ⟨ret_bool (by rw [HE.out]), eal (Ext.refl _) _⟩
theorem gt_rs (R : Rst) (p : Rst) (b4 : Nat) (w : World) (h4 : w.cell? ⟨b4, 0, none⟩ = some (.int .i64 R.id)) (l4 : b4 < w.heap.size) :
    Calls Tryd.prog 29 #[.agg #[.int .i64 p.id, .int .i64 p.el, .int .i64 p.from_, .int .i64 p.to_, .int .i64 p.speed, .bool p.act], .pointer (some ⟨b4, 0, none⟩)] w fun e w' => e = .returned (.bool (gtR R.id p)) ∧ Below w.heap.size w w' := by
  have HE : Hid (gtR R.id p = decide (R.id < p.id)) := rfl
  go_enter Tryd.func29, Tryd.ntmps29
  go_wp2
  go_ret
  exact ⟨ret_bool (by rw [HE.out]), eal (Ext.refl _) _⟩
set_option maxHeartbeats 4000000 in
theorem idxf_rs (A : Option Addr) (l : List Rst) (c : Nat) (k : Int) (b4 : Nat) (w : World) (hm : l.length ≤ maxLen) (hr : Rd w A 6 Rsc l) (h4 : w.cell? ⟨b4, 0, none⟩ = some (.int .i64 k)) (l4 : b4 < w.heap.size) :
    Calls Tryd.prog 28 #[.slice A l.length c, .func (.func 44) #[] #[.pointer (some ⟨b4, 0, none⟩)]] w fun e w' => e = .returned (.int .i64 (idxRV k l)) ∧ Below w.heap.size w w' := by
  unfold maxLen at hm
  have HR := Lib.hid hr
  have H4 := Lib.hid h4
  clear hr h4
  go_enter Tryd.func28, Tryd.ntmps28
  go_wp2
  go_loopg [8] l.length (fun g i wr => ∃ j : Nat, i = .int .i64 j ∧ j ≤ l.length ∧ g = l.length - j ∧ Hid (Ext w wr ∧ ∀ (i : Nat) t, i < j → l[i]? = some t → hitR k t = false))
  case atStart => exact ⟨0, rfl, by omega, rfl, Ext.refl _, fun i t h => absurd h (by omega)⟩
  case round =>
    obtain ⟨j, rfl, hj, hg, H⟩ := hrel
    have HG := Lib.hid hg
    clear hg
    by_cases hlt : j < l.length
    · obtain ⟨b, off, p, rfl, hs, hbs, c0, c1, c2, c3, c4, c5⟩ := rd_rs HR.out H.out.1 hlt
      have k4 := (H.out.1.cell (p := ⟨b4, 0, none⟩) l4).trans H4.out
      have z4 : b4 < wr.heap.size := Nat.lt_of_lt_of_le l4 H.out.1.size
      cases hh : hitR k p
      · have HN : Hid (∀ (i : Nat) t, i < j + 1 → l[i]? = some t → hitR k t = false) := fun i t hi ht => by
          by_cases e : i = j
          · subst e; rw [hs] at ht; cases ht; exact hh
          · exact H.out.2 i t (by omega) ht
        clear hs
        go_wp2_with (go_at_call 44; refine (to_after (hit_rs k p b4 _ k4 z4)).mono ?_; rintro e w' ⟨y, rfl, rfl⟩)
        go_roundg (l.length - (j + 1))
        case measure => have := HG.out; omega
        case rel => exact ⟨j + 1, by go_num, by omega, rfl, etr H.out.1 y.is, HN.out⟩
      · have HE : Hid (idxRV k l = j) := idxRV_some (idxR_some hs hh H.out.2)
        clear hs
        go_wp2_with (go_at_call 44; refine (to_after (hit_rs k p b4 _ k4 z4)).mono ?_; rintro e w' ⟨y, rfl, rfl⟩)
        go_ret
        exact ⟨ret_int HE.out.symm, etr H.out.1 y.is⟩
    · have HE : Hid (idxRV k l = -1) := idxRV_none (idxR_none fun i t ht => H.out.2 i t (by have := (List.getElem?_eq_some_iff.1 ht).1; omega) ht)
      go_wp2
      go_ret
      exact ⟨ret_int HE.out.symm, H.out.1⟩
set_option maxHeartbeats 4000000 in
theorem gtf_rs (A : Option Addr) (l : List Rst) (c : Nat) (R : Rst) (b4 : Nat) (w : World) (hm : l.length ≤ maxLen) (hr : Rd w A 6 Rsc l) (h4 : w.cell? ⟨b4, 0, none⟩ = some (.int .i64 R.id)) (l4 : b4 < w.heap.size) :
    Calls Tryd.prog 28 #[.slice A l.length c, .func (.func 29) #[] #[.pointer (some ⟨b4, 0, none⟩)]] w fun e w' => e = .returned (.int .i64 (gtV R.id l)) ∧ Below w.heap.size w w' := by
  unfold maxLen at hm
  have HR := Lib.hid hr
  have H4 := Lib.hid h4
  clear hr h4
  go_enter Tryd.func28, Tryd.ntmps28
  go_wp2
  go_loopg [8] l.length (fun g i wr => ∃ j : Nat, i = .int .i64 j ∧ j ≤ l.length ∧ g = l.length - j ∧ Hid (Ext w wr ∧ ∀ (i : Nat) t, i < j → l[i]? = some t → gtR R.id t = false))
  case atStart => exact ⟨0, rfl, by omega, rfl, Ext.refl _, fun i t h => absurd h (by omega)⟩
  case round =>
    obtain ⟨j, rfl, hj, hg, H⟩ := hrel
    have HG := Lib.hid hg
    clear hg
    by_cases hlt : j < l.length
    · obtain ⟨b, off, p, rfl, hs, hbs, c0, c1, c2, c3, c4, c5⟩ := rd_rs HR.out H.out.1 hlt
      have k4 := (H.out.1.cell (p := ⟨b4, 0, none⟩) l4).trans H4.out
      have z4 : b4 < wr.heap.size := Nat.lt_of_lt_of_le l4 H.out.1.size
      cases hh : gtR R.id p
      · have HN : Hid (∀ (i : Nat) t, i < j + 1 → l[i]? = some t → gtR R.id t = false) := fun i t hi ht => by
          by_cases e : i = j
          · subst e; rw [hs] at ht; cases ht; exact hh
          · exact H.out.2 i t (by omega) ht
        clear hs
        go_wp2_with (go_at_call 29; refine (to_after (gt_rs R p b4 _ k4 z4)).mono ?_; rintro e w' ⟨y, rfl, rfl⟩)
        go_roundg (l.length - (j + 1))
        case measure => have := HG.out; omega
        case rel => exact ⟨j + 1, by go_num, by omega, rfl, etr H.out.1 y.is, HN.out⟩
      · have HE : Hid (gtV R.id l = j) := (gtV_some (gtO_some hs hh H.out.2)).1
        clear hs
        go_wp2_with (go_at_call 29; refine (to_after (gt_rs R p b4 _ k4 z4)).mono ?_; rintro e w' ⟨y, rfl, rfl⟩)
        go_ret
        exact ⟨ret_int HE.out.symm, etr H.out.1 y.is⟩
    · have HE : Hid (gtV R.id l = -1) := (gtV_none (gtO_none fun i t ht => H.out.2 i t (by have := (List.getElem?_eq_some_iff.1 ht).1; omega) ht)).1
      go_wp2
      go_ret
      exact ⟨ret_int HE.out.symm, H.out.1⟩
theorem index_rs (A : Option Addr) (l : List Rst) (c : Nat) (k : Int) (w : World) (hm : l.length ≤ maxLen) (hr : Rd w A 6 Rsc l) :
    Calls Tryd.prog 27 #[.slice A l.length c, .int .i64 k] w fun e w' => e = .returned (.int .i64 (idxRV k l)) ∧ Below w.heap.size w w' := by
  have HM := Lib.hid hm
  have HR := Lib.hid hr
  clear hm hr
  go_enter Tryd.func27, Tryd.ntmps27
  go_wp2_with (go_at_call 28; refine (to_after (idxf_rs A l c k w.heap.size _ HM.out (HR.out.keep (eal (Ext.refl _) _)) ((CellsAt.new (w := w) (cs := #[.int .i64 k]) (t := 3) rfl).2 0 _ rfl) (by simp))).mono ?_; rintro e w' ⟨y, rfl, rfl⟩)
  go_ret
  exact ⟨rfl, etr (eal (Ext.refl _) _) y.is⟩
set_option maxHeartbeats 4000000 in
theorem place_rs (A : Option Addr) (l : List Rst) (c : Nat) (k : Int) (w : World) (hm : l.length ≤ maxLen) (hr : Rd w A 6 Rsc l) :
    Calls Tryd.prog 31 #[.slice A l.length c, .int .i64 k] w fun e w' => e = .returned (.int .i64 (idxRV k l)) ∧ Below w.heap.size w w' := by
  unfold maxLen at hm
  have HR := Lib.hid hr
  clear hr
  go_enter Tryd.func31, Tryd.ntmps31
  go_wp2
  go_loopg [9] l.length (fun g i wr => ∃ j : Nat, i = .int .i64 j ∧ j ≤ l.length ∧ g = l.length - j ∧ Hid (Ext w wr ∧ ∀ (i : Nat) t, i < j → l[i]? = some t → hitR k t = false))
  case atStart => exact ⟨0, rfl, by omega, rfl, Ext.refl _, fun i t h => absurd h (by omega)⟩
  case round =>
    obtain ⟨j, rfl, hj, hg, H⟩ := hrel
    have HG := Lib.hid hg
    clear hg
    by_cases hlt : j < l.length
    · obtain ⟨b, off, p, rfl, hs, hbs, c0, c1, c2, c3, c4, c5⟩ := rd_rs HR.out H.out.1 hlt
      cases hh : hitR k p
      · have HN : Hid (∀ (i : Nat) t, i < j + 1 → l[i]? = some t → hitR k t = false) := fun i t hi ht => by
          by_cases e : i = j
          · subst e; rw [hs] at ht; cases ht; exact hh
          · exact H.out.2 i t (by omega) ht
        have q1 : (p.id == k) = false := hh
        clear hs hh
        go_wp2
        go_roundg (l.length - (j + 1))
        case measure => have := HG.out; omega
        case rel => exact ⟨j + 1, by go_num, by omega, rfl, eal H.out.1 _, HN.out⟩
      · have HE : Hid (idxRV k l = j) := idxRV_some (idxR_some hs hh H.out.2)
        have q1 : (p.id == k) = true := hh
        clear hs hh
        go_wp2
        go_ret
        exact ⟨ret_int HE.out.symm, eal H.out.1 _⟩
    · have HE : Hid (idxRV k l = -1) := idxRV_none (idxR_none fun i t ht => H.out.2 i t (by have := (List.getElem?_eq_some_iff.1 ht).1; omega) ht)
      go_wp2
      go_ret
      exact ⟨ret_int HE.out.symm, H.out.1⟩
end Go.Proofs.YtacnfchoemndeaaDoor
