/- Walks of package profile and of its reference: the reference's Valid. -/
import Derived.Test.YtoodehilgogomaaDoorWProf
set_option linter.unusedVariables false
set_option linter.unusedSimpArgs false
namespace Go.Proofs.YtoodehilgogomaaDoor
open Go.ChangeShapes Go.WideShapes Go.ChangeAt Go.RowKit
open Sg

theorem bad_seg2 {s : Sgm} (h : ¬ SegOk s) : (s.from_ < -1073741824) ∨ (decide (s.from_ < -1073741824) = false ∧ s.to_ ≤ s.from_) ∨ (decide (s.from_ < -1073741824) = false ∧ decide (s.to_ ≤ s.from_) = false ∧ 1073741824 < s.to_) ∨
    (decide (s.from_ < -1073741824) = false ∧ decide (s.to_ ≤ s.from_) = false ∧ decide (1073741824 < s.to_) = false ∧ s.grade < -50) ∨
    (decide (s.from_ < -1073741824) = false ∧ decide (s.to_ ≤ s.from_) = false ∧ decide (1073741824 < s.to_) = false ∧ decide (s.grade < -50) = false ∧ 50 < s.grade) ∨
    (decide (s.from_ < -1073741824) = false ∧ decide (s.to_ ≤ s.from_) = false ∧ decide (1073741824 < s.to_) = false ∧ decide (s.grade < -50) = false ∧ decide (50 < s.grade) = false ∧ s.speed < 1) ∨
    (decide (s.from_ < -1073741824) = false ∧ decide (s.to_ ≤ s.from_) = false ∧ decide (1073741824 < s.to_) = false ∧ decide (s.grade < -50) = false ∧ decide (50 < s.grade) = false ∧ decide (s.speed < 1) = false ∧ 10000 < s.speed) := by
  unfold SegOk at h
  simp only [decide_eq_false_iff_not]
  omega
set_option maxHeartbeats 8000000 in
theorem rvalid_any (A : Option Addr) (p : List Sgm) (cap : Nat) (w : World) (hm : p.length ≤ maxLen) (hr : Rd w A 4 Sgc p) : Calls Tryd.prog 25 #[.slice A p.length cap] w fun e w' => e = .returned (.bool (validB p)) ∧ Below w.heap.size w w' := by
  unfold maxLen at hm
  have HR := Lib.hid hr
  clear hr
  go_enter Tryd.func25, Tryd.ntmps25
  go_wp2
  go_loopg [7] p.length (fun g i wr => ∃ k : Nat, i = .int .i64 k ∧ k ≤ p.length ∧ g = p.length - k ∧ Hid (Below w.heap.size w wr ∧ ValidTo p k))
  case atStart => exact ⟨0, rfl, by omega, rfl, Below.refl _ _, validTo_zero p⟩
  case round =>
    obtain ⟨k, rfl, hk, hg, H⟩ := hrel
    have HG := Lib.hid hg
    clear hg
    by_cases hlt : k < p.length
    · obtain ⟨b, off, s, rfl, hs, hbs, c0, c1, c2, c3⟩ := rd_seg HR.out H.out.1 hlt
      have hgd := getD_of hs
      have HS := Lib.hid hs
      clear hs
      by_cases hseg : SegOk s
      · have HSO := Lib.hid hseg
        obtain ⟨g1, g2, g3, g4, g5, g6, g7⟩ := hseg
        have r1 : decide (s.from_ < -1073741824) = false := by simp; omega
        have r2 : decide (s.to_ ≤ s.from_) = false := by simp; omega
        have r3 : decide (1073741824 < s.to_) = false := by simp; omega
        have r4 : decide (s.grade < -50) = false := by simp; omega
        have r5 : decide (50 < s.grade) = false := by simp; omega
        have r6 : decide (s.speed < 1) = false := by simp; omega
        have r7 : decide (10000 < s.speed) = false := by simp; omega
        by_cases hk0 : k = 0
        · have HV := Lib.hid (validTo_succ H.out.2 (by rw [hgd]; exact HSO.out) (.inl hk0))
          have hk0n : decide (0 < k) = false := by simp; omega
          clear hgd hk0
          go_wp2
          refine wp_region_after (by kernel_rfl) (by kernel_rfl) ?_
          repeat (first | go_big_quiet_step (fail))
          refine wpQuiet_nil ?_
          rintro _ ⟨y, rfl⟩
          go_wp2
          go_roundg (p.length - (k + 1))
          case measure => have := HG.out; omega
          case rel => exact ⟨k + 1, by go_num, by omega, rfl, (H.out.1.alloc H.out.1.size _).trans (y.is.mono (by have := H.out.1.size; simp; omega)), HV.out⟩
        · obtain ⟨b', off', s', hA, hs', _, _, d1, _, _⟩ := rd_seg (k := k - 1) HR.out H.out.1 (by omega)
          injection hA with hA
          injection hA with hA1 hA2
          subst hA1 hA2
          have hgd' := getD_of hs'
          have hk0' : decide ((0 : Int) < k) = true := by simp; omega
          have hk0n : 0 < k := by omega
          have hkp : (0 : Int) < k := by omega
          clear hs'
          by_cases hlk : s.from_ = s'.to_
          · have HV := Lib.hid (validTo_succ H.out.2 (by rw [hgd]; exact HSO.out) (.inr (by rw [hgd, hgd']; exact hlk)))
            have hlk' : (s'.to_ != s.from_) = false := by simp [hlk]
            clear hgd hgd' hlk hk0
            go_wp2
            refine wp_region_after (by kernel_rfl) (by kernel_rfl) ?_
            repeat (first | go_big_quiet_step (fail))
            refine wpQuiet_nil ?_
            rintro _ ⟨y, rfl⟩
            go_wp2
            go_roundg (p.length - (k + 1))
            case measure => have := HG.out; omega
            case rel => exact ⟨k + 1, by go_num, by omega, rfl, (H.out.1.alloc H.out.1.size _).trans (y.is.mono (by have := H.out.1.size; simp; omega)), HV.out⟩
          · have HV := Lib.hid (validB_false.2 (not_valid hlt (fun hh => by
              rcases hh.2 with h0 | h0
              · exact hk0 h0
              · rw [hgd, hgd'] at h0; exact hlk h0)))
            have hlk' : (s'.to_ != s.from_) = true := by simpa using fun h => hlk h.symm
            clear hgd hgd' hlk hk0
            go_wp2
            refine wp_region_after (by kernel_rfl) (by kernel_rfl) ?_
            repeat (first | go_big_quiet_step (fail))
            refine wpQuiet_nil ?_
            rintro _ ⟨y, rfl⟩
            go_wp2
            go_ret
            exact ⟨ret_bool HV.out.symm, (H.out.1.alloc H.out.1.size _).trans (y.is.mono (by have := H.out.1.size; simp; omega))⟩
      · have HV := Lib.hid (validB_false.2 (not_valid hlt (fun hh => hseg (by rw [← hgd]; exact hh.1))))
        have key := bad_seg2 hseg
        clear hseg hgd
        rcases key with h1 | ⟨h1, h2⟩ | ⟨h1, h2, h3⟩ | ⟨h1, h2, h3, h4⟩ | ⟨h1, h2, h3, h4, h5⟩ | ⟨h1, h2, h3, h4, h5, h6⟩ | ⟨h1, h2, h3, h4, h5, h6, h7⟩
        all_goals go_wp2
        all_goals refine wp_region_after (by kernel_rfl) (by kernel_rfl) ?_
        all_goals repeat (first | go_big_quiet_step (fail))
        all_goals refine wpQuiet_nil ?_
        all_goals rintro _ ⟨y, rfl⟩
        all_goals go_wp2
        all_goals go_ret
        all_goals exact ⟨ret_bool HV.out.symm, (H.out.1.alloc H.out.1.size _).trans (y.is.mono (by have := H.out.1.size; simp; omega))⟩
    · have HV : Hid (validB p = decide ((p.length : Int) ≤ 128)) := by
        show _ = _
        by_cases h : p.length ≤ 128
        · rw [validB_true.2 (show Valid p from ⟨h, fun i hi => H.out.2 i (by omega)⟩)]; simp; omega
        · rw [validB_false.2 (fun hh : Valid p => h hh.1)]; simp; omega
      go_wp2
      go_ret
      exact ⟨ret_bool HV.out.symm, H.out.1⟩
end Go.Proofs.YtoodehilgogomaaDoor
