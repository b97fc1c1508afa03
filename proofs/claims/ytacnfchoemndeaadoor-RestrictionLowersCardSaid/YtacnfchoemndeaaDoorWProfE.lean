/- Walks of package profile and of its reference: lists that are made; Same. -/
import Derived.Test.YtacnfchoemndeaaDoorWProf
import Derived.Test.YtacnfchoemndeaaDoorWProfB
set_option linter.unusedVariables false
set_option linter.unusedSimpArgs false
namespace Go.Proofs.YtacnfchoemndeaaDoor
open Go.ChangeShapes Go.WideShapes Go.ChangeAt Go.RowKit
open Sg

theorem seg_info : (Tryd.prog.info? 53).map (fun i => (i.zero, i.size, i.bytes)) = some (some (.agg #[.int .i64 0, .int .i64 0, .int .i64 0, .int .i64 0]), 4, 32) := by kernel_rfl
theorem OwnL.alloc {α : Type} {w : World} {base : Nat} {e : TypeId} {k : Nat} {enc : α → List Value} {v : Value} {xs : List α} (h : OwnL w base e k enc v xs) (o : Obj) : OwnL (w.alloc o) base e k enc v xs := World.ownsRow.alloc h o
open Classical in
noncomputable def sameL (a b : List Sgm) : Bool := decide (a = b)
theorem sameL_true {a b : List Sgm} : sameL a b = true ↔ a = b := by simp [sameL]
theorem sameL_false {a b : List Sgm} : sameL a b = false ↔ a ≠ b := by simp [sameL]
set_option maxHeartbeats 4000000 in
theorem same_any (A B : Option Addr) (p q : List Sgm) (c d : Nat) (w : World) (hm : p.length ≤ maxLen) (hm2 : q.length ≤ maxLen) (hr : Rd w A 4 Sgc p) (hr2 : Rd w B 4 Sgc q) :
    Calls Tryd.prog 18 #[.slice A p.length c, .slice B q.length d] w fun e w' => e = .returned (.bool (sameL p q)) ∧ Below w.heap.size w w' := by
  unfold maxLen at hm hm2
  have HR := Lib.hid hr
  have HR2 := Lib.hid hr2
  clear hr hr2
  by_cases hl : p.length = q.length
  · have hl' : ((p.length : Int) != (q.length : Int)) = false := by simp [hl]
    have HL := Lib.hid hl
    clear hl
    go_enter Tryd.func18, Tryd.ntmps18
    go_wp2
    go_loopg [13] p.length (fun g i wr => ∃ k : Nat, i = .int .i64 k ∧ k ≤ p.length ∧ g = p.length - k ∧ Hid (Below w.heap.size w wr ∧ ∀ j : Nat, j < k → p[j]? = q[j]?))
    case atStart => exact ⟨0, rfl, by omega, rfl, Below.refl _ _, fun j h => absurd h (by omega)⟩
    case round =>
      obtain ⟨k, rfl, hk, hg, H⟩ := hrel
      have HG := Lib.hid hg
      clear hg
      by_cases hlt : k < p.length
      · obtain ⟨b, off, s, rfl, hs, hbs, c0, c1, c2, c3⟩ := rd_seg HR.out H.out.1 hlt
        have hlt2 : k < q.length := by have := HL.out; omega
        obtain ⟨b', off', s', rfl, hs', hbs', d0, d1, d2, d3⟩ := rd_seg HR2.out H.out.1 hlt2
        by_cases he : s = s'
        · subst he
          have HN : Hid (∀ j : Nat, j < k + 1 → p[j]? = q[j]?) := fun j hj => by
            by_cases e : j = k
            · subst e; rw [hs, hs']
            · exact H.out.2 j (by omega)
          clear hs hs'
          go_wp2
          refine wp_region_after (by kernel_rfl) (by kernel_rfl) ?_
          repeat (first | go_big_quiet_step (fail))
          refine wpQuiet_nil ?_
          rintro _ ⟨y, rfl⟩
          go_wp2
          go_roundg (p.length - (k + 1))
          case measure => have := HG.out; omega
          case rel => exact ⟨k + 1, by go_num, by omega, rfl, H.out.1.trans (y.is.mono H.out.1.size), HN.out⟩
        · have HV := Lib.hid (sameL_false.2 (show p ≠ q from fun e => he (by rw [e, hs'] at hs; cases hs; rfl)))
          have key : (s.from_ == s'.from_) = false ∨ ((s.from_ == s'.from_) = true ∧ (s.to_ == s'.to_) = false) ∨ ((s.from_ == s'.from_) = true ∧ (s.to_ == s'.to_) = true ∧ (s.grade == s'.grade) = false) ∨ ((s.from_ == s'.from_) = true ∧ (s.to_ == s'.to_) = true ∧ (s.grade == s'.grade) = true ∧ (s.speed == s'.speed) = false) := by
            simp only [beq_iff_eq, beq_eq_false_iff_ne]
            refine Classical.byContradiction fun h => he (Sgm.eq ?_ ?_ ?_ ?_) <;> omega
          clear hs hs' he
          rcases key with k1 | ⟨k1, k2⟩ | ⟨k1, k2, k3⟩ | ⟨k1, k2, k3, k4⟩
          all_goals go_wp2
          all_goals refine wp_region_after (by kernel_rfl) (by kernel_rfl) ?_
          all_goals repeat (first | go_big_quiet_step (fail))
          all_goals refine wpQuiet_nil ?_
          all_goals rintro _ ⟨y, rfl⟩
          all_goals go_wp2
          all_goals go_ret
          all_goals exact ⟨ret_bool HV.out.symm, H.out.1.trans (y.is.mono H.out.1.size)⟩
      · have HV := Lib.hid (sameL_true.2 (show p = q from List.ext_getElem? fun j => by
          by_cases hj : j < k
          · exact H.out.2 j hj
          · rw [List.getElem?_eq_none (by omega), List.getElem?_eq_none (by have := HL.out; omega)]))
        go_wp2
        go_ret
        exact ⟨ret_bool HV.out.symm, H.out.1⟩
  · have hl' : ((p.length : Int) != (q.length : Int)) = true := by simp; omega
    have HV := Lib.hid (sameL_false.2 (show p ≠ q from fun e => hl (by rw [e])))
    clear hl
    go_enter Tryd.func18, Tryd.ntmps18
    go_wp2
    go_ret
    exact ⟨ret_bool HV.out.symm, Below.refl _ _⟩
noncomputable def touT (p : List Sgm) (f t : Int) (k : Nat) : List Sgm := if validB p = true then (p.take k).filter (touchB f t) else []
theorem touT_len (p : List Sgm) (f t : Int) (k : Nat) : (touT p f t k).length ≤ k := by
  unfold touT; split
  · have := List.length_filter_le (touchB f t) (p.take k); simp at this; omega
  · simp
set_option maxHeartbeats 4000000 in
theorem touched_any (A : Option Addr) (p : List Sgm) (cap : Nat) (f t : Int) (w : World) (hm : p.length ≤ 1000000) (hr : Rd w A 4 Sgc p) :
    Calls Tryd.prog 43 #[.slice A p.length cap, .int .i64 f, .int .i64 t] w fun e w' => ∃ v, e = .returned v ∧ OwnL w' w.heap.size 53 4 Sgc v (touL p f t) ∧ Below w.heap.size w w' := by
  have HM : Hid (p.length ≤ maxLen) := by show _ ≤ _; unfold maxLen; omega
  have HR := Lib.hid hr
  clear hr
  obtain ⟨i0, hi, hz0, hz1, hz2⟩ := info_parts seg_info
  obtain ⟨vb, hvb⟩ : ∃ vb, validB p = vb := ⟨_, rfl⟩
  have HVB := Lib.hid hvb
  go_enter Tryd.func43, Tryd.ntmps43
  go_wp2
  go_loopg [7, 12] p.length (fun g v i wr => ∃ k : Nat, i = .int .i64 k ∧ k ≤ p.length ∧ g = p.length - k ∧ Hid (Below w.heap.size w wr ∧ OwnL wr w.heap.size 53 4 Sgc v (touT p f t k)))
  case atStart => exact ⟨0, rfl, by omega, rfl, Below.refl _ _, by have : touT p f t 0 = [] := (by unfold touT; split <;> simp); rw [this]; exact OwnL.nil⟩
  case round =>
    obtain ⟨k, rfl, hk, hg, H⟩ := hrel
    have HG := Lib.hid hg
    clear hg
    by_cases hlt : k < p.length
    · obtain ⟨b, off, s, rfl, hs, hbs, c0, c1, c2, c3⟩ := rd_seg HR.out H.out.1 hlt
      have HT := Lib.hid (filter_take (g := touchB f t) hs)
      have HRw := Lib.hid ((HR.out.keep H.out.1).keep ((Below.refl wr.heap.size wr).alloc (Nat.le_refl _) (.cells #[.int .i64 s.from_, .int .i64 s.to_, .int .i64 s.grade, .int .i64 s.speed] 53)))
      have hsz := H.out.1.size
      have hlen := touT_len p f t k
      clear hs
      cases vb
      · have HQ : Hid (touT p f t (k + 1) = touT p f t k) := by show _ = _; rw [touT, touT, HVB.out]; rfl
        go_wp2_with (go_at_call 21; refine (to_after (rvalid_any _ p cap _ HM.out HRw.out)).mono ?_; rintro e w' ⟨y, rfl, rfl⟩)
        go_roundg (p.length - (k + 1))
        case measure => have := HG.out; omega
        case rel => exact ⟨k + 1, by go_num, by omega, rfl, (H.out.1.alloc H.out.1.size _).trans (y.is.mono (by simp; omega)), by rw [HQ.out]; exact (H.out.2.alloc _).keep y.is⟩
      · by_cases ht : touchB f t s = true
        · have HQ : Hid (touT p f t (k + 1) = touT p f t k ++ [s]) := by show _ = _; rw [touT, touT, if_pos HVB.out, if_pos HVB.out, HT.out, if_pos ht]
          have ht' : s.from_ ≤ t ∧ f ≤ s.to_ := by simpa [touchB] using ht
          obtain ⟨t1, t2⟩ := ht'
          clear ht
          go_wp2_with (first
            | (go_at_call 21; refine (to_after (rvalid_any _ p cap _ HM.out HRw.out)).mono ?_; rintro e w' ⟨y, rfl, rfl⟩)
            | (at_builtin
               refine wp_app1 Sgc_len Sgc_one Tryd.underlying43 hi hz0 hz1 hz2 rfl (by decide) rfl rfl rfl (((H.out.2.alloc _).keep y.is).alloc _) s y.val.heap.size rfl (by exact CellsAt.new rfl) (by omega) (by unfold maxLen; omega) (by have := y.is.size; simp at this ⊢; omega) ?_
               intro v1 w1 ho1 hg1 hat1
               have HO1 := Lib.hid ho1
               have HB1 := Lib.hid (OwnL.app_below (((H.out.1.alloc H.out.1.size _).trans (y.is.mono (by simp; omega))).alloc (by have := y.is.size; simp at this; omega) _) (by have := y.is.size; simp at this ⊢; omega) (fun b hb => (H.out.2.lt b hb).1) hg1)
               clear ho1 hg1 hat1))
          go_roundg (p.length - (k + 1))
          case measure => have := HG.out; omega
          case rel => exact ⟨k + 1, by go_num, by omega, rfl, HB1.out, by rw [HQ.out]; exact HO1.out⟩
        · have HQ : Hid (touT p f t (k + 1) = touT p f t k) := by show _ = _; rw [touT, touT, if_pos HVB.out, if_pos HVB.out, HT.out, if_neg ht]; simp
          have ht' : decide (s.from_ ≤ t) = false ∨ (s.from_ ≤ t ∧ decide (f ≤ s.to_) = false) := by
            have : ¬ (s.from_ ≤ t ∧ f ≤ s.to_) := by simpa [touchB] using ht
            simp; omega
          clear ht
          rcases ht' with t1 | ⟨t1, t2⟩
          all_goals go_wp2_with (go_at_call 21; refine (to_after (rvalid_any _ p cap _ HM.out HRw.out)).mono ?_; rintro e w' ⟨y, rfl, rfl⟩)
          all_goals go_roundg (p.length - (k + 1))
          all_goals first | (case measure => have := HG.out; omega) | skip
          all_goals exact ⟨k + 1, by go_num, by omega, rfl, (H.out.1.alloc H.out.1.size _).trans (y.is.mono (by simp; omega)), by rw [HQ.out]; exact (H.out.2.alloc _).keep y.is⟩
    · have HQ : Hid (touT p f t k = touL p f t) := by show _ = _; rw [touT, touL, List.take_of_length_le (by omega)]
      go_wp2
      go_ret
      exact ⟨_, rfl, by rw [← HQ.out]; exact H.out.2, H.out.1⟩
end Go.Proofs.YtacnfchoemndeaaDoor
