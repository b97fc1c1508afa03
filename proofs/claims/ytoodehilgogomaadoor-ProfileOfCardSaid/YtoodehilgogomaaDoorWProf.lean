/- Walks of package profile and of its reference: Valid, At. -/
import Derived.Test.YtoodehilgogomaaDoorOwn
import Derived.Test.YtoodehilgogomaaDoorPProf
import Derived.Deep.LoopGhost
set_option linter.unusedVariables false
set_option linter.unusedSimpArgs false
namespace Go.Proofs.YtoodehilgogomaaDoor
open Go.ChangeShapes Go.WideShapes Go.ChangeAt Go.RowKit
open Sg

def Sgc (s : Sgm) : List Value := [.int .i64 s.from_, .int .i64 s.to_, .int .i64 s.grade, .int .i64 s.speed]
theorem Sgc_len (s : Sgm) : (Sgc s).length = 4 := rfl
theorem Sgc_one (s : Sgm) : ∀ u ∈ Sgc s, u.oneCell' = true := by intro u hu; simp [Sgc] at hu; rcases hu with rfl | rfl | rfl | rfl <;> rfl
/-- The cells of the segment k, in the walk's own spelling. -/
theorem rd_seg {w wr : World} {A : Option Addr} {p : List Sgm} {k : Nat} (h : Rd w A 4 Sgc p) (hb : Below w.heap.size w wr) (hk : k < p.length) :
    ∃ b off s, A = some ⟨b, off, none⟩ ∧ p[k]? = some s ∧ b < wr.heap.size ∧ wr.cell? ⟨b, off + k * 4, none⟩ = some (.int .i64 s.from_) ∧ wr.cell? ⟨b, off + k * 4 + 1, none⟩ = some (.int .i64 s.to_) ∧ wr.cell? ⟨b, off + k * 4 + 1 + 1, none⟩ = some (.int .i64 s.grade) ∧ wr.cell? ⟨b, off + k * 4 + 1 + 1 + 1, none⟩ = some (.int .i64 s.speed) := by
  obtain ⟨b, off, rfl, h1, h2⟩ := h.keep hb (by omega)
  obtain ⟨s, hs⟩ : ∃ s, p[k]? = some s := ⟨_, List.getElem?_eq_getElem hk⟩
  exact ⟨b, off, s, rfl, hs, h1, h2 k s hs 0 _ rfl, h2 k s hs 1 _ rfl, h2 k s hs 2 _ rfl, h2 k s hs 3 _ rfl⟩
def coB (n : Int) : Bool := decide (-1073741824 ≤ n) && decide (n ≤ 1073741824)
theorem coB_true {n : Int} : coB n = true ↔ -1073741824 ≤ n ∧ n ≤ 1073741824 := by simp [coB]
theorem coB_false {n : Int} : coB n = false ↔ ¬ (-1073741824 ≤ n ∧ n ≤ 1073741824) := by simp [coB]
theorem pco_any (n : Int) (w : World) : Calls Tryd.prog 21 #[.int .i64 n] w fun e w' => e = .returned (.bool (coB n)) ∧ w = w' := by
  by_cases h1 : -1073741824 ≤ n
  · have HE : Hid (coB n = decide (n ≤ 1073741824)) := by show _ = _; simp [coB, h1]
    go_enter Tryd.func21, Tryd.ntmps21
    go_wp2
    go_ret
    exact ⟨ret_bool HE.out.symm, rfl⟩
  · have h1' : decide (-1073741824 ≤ n) = false := by simpa using h1
    have HE : Hid (coB n = false) := by show _ = _; simp [coB, h1']
    go_enter Tryd.func21, Tryd.ntmps21
    go_wp2
    go_ret
    exact ⟨ret_bool HE.out.symm, rfl⟩
theorem bad_seg {s : Sgm} (h : ¬ SegOk s) : (coB s.from_ = false) ∨ (coB s.from_ = true ∧ coB s.to_ = false) ∨ (coB s.from_ = true ∧ coB s.to_ = true ∧ s.to_ ≤ s.from_) ∨ (coB s.from_ = true ∧ coB s.to_ = true ∧ decide (s.to_ ≤ s.from_) = false ∧ s.grade < -50) ∨
    (coB s.from_ = true ∧ coB s.to_ = true ∧ decide (s.to_ ≤ s.from_) = false ∧ decide (s.grade < -50) = false ∧ 50 < s.grade) ∨ (coB s.from_ = true ∧ coB s.to_ = true ∧ decide (s.to_ ≤ s.from_) = false ∧ decide (s.grade < -50) = false ∧ decide (50 < s.grade) = false ∧ s.speed < 1) ∨
    (coB s.from_ = true ∧ coB s.to_ = true ∧ decide (s.to_ ≤ s.from_) = false ∧ decide (s.grade < -50) = false ∧ decide (50 < s.grade) = false ∧ decide (s.speed < 1) = false ∧ 10000 < s.speed) := by
  unfold SegOk at h
  simp only [coB_true, coB_false, decide_eq_false_iff_not]
  omega
set_option maxHeartbeats 4000000 in
theorem valid_any (A : Option Addr) (p : List Sgm) (cap : Nat) (w : World) (hm : p.length ≤ maxLen) (hr : Rd w A 4 Sgc p) : Calls Tryd.prog 10 #[.slice A p.length cap] w fun e w' => e = .returned (.bool (validB p)) ∧ Below w.heap.size w w' := by
  unfold maxLen at hm
  have HR := Lib.hid hr
  clear hr
  by_cases hl : p.length ≤ 128
  · have hl' : decide (128 < p.length) = false := by simpa using hl
    go_enter Tryd.func10, Tryd.ntmps10
    go_wp2
    go_loopg [10] p.length (fun g i wr => ∃ k : Nat, i = .int .i64 k ∧ k ≤ p.length ∧ g = p.length - k ∧ Hid (Below w.heap.size w wr ∧ ValidTo p k))
    case atStart => exact ⟨0, rfl, by omega, rfl, Below.refl _ _, validTo_zero p⟩
    case round =>
      obtain ⟨k, rfl, hk, hg, H⟩ := hrel
      have HG := Lib.hid hg
      clear hg
      by_cases hlt : k < p.length
      · obtain ⟨b, off, s, rfl, hs, hbs, c0, c1, c2, c3⟩ := rd_seg HR.out H.out.1 hlt
        have hgd := getD_of hs
        have HS := Lib.hid hs
        clear hs
        by_cases hseg : SegOk s
        · have q1 : coB s.from_ = true := coB_true.2 (by unfold SegOk at hseg; omega)
          have q2 : coB s.to_ = true := coB_true.2 (by unfold SegOk at hseg; omega)
          obtain ⟨g1, g2, g3, g4, g5, g6, g7⟩ := hseg
          have HSO : Hid (SegOk s) := ⟨g1, g2, g3, g4, g5, g6, g7⟩
          by_cases hk0 : k = 0
          · have HV := Lib.hid (validTo_succ H.out.2 (by rw [hgd]; exact HSO.out) (.inl hk0))
            have hk0' : decide ((0 : Int) < k) = false := by simp; omega
            have hk0n : decide (0 < k) = false := by simp; omega
            clear hgd hk0
            go_wp2_with (go_at_call 21; refine (pco_any _ _).mono ?_; rintro e w' ⟨rfl, rfl⟩)
            refine wp_region_after (by kernel_rfl) (by kernel_rfl) ?_
            repeat (first | go_big_quiet_step (fail))
            refine wpQuiet_nil ?_
            rintro _ ⟨y, rfl⟩
            go_wp2
            go_roundg (p.length - (k + 1))
            case measure => have := HG.out; omega
            case rel => exact ⟨k + 1, by go_num, by omega, rfl, (H.out.1.alloc H.out.1.size _).trans (y.is.mono (by have := H.out.1.size; simp; omega)), HV.out⟩
          · obtain ⟨b', off', s', hA, hs', _, _, d1, _, _⟩ := rd_seg (k := k - 1) HR.out H.out.1 (by omega)
            injection hA with hA
            injection hA with hA1 hA2
            subst hA1 hA2
            have hgd' := getD_of hs'
            have hk0' : decide ((0 : Int) < k) = true := by simp; omega
            have hk0n : 0 < k := by omega
            have hkp : (0 : Int) < k := by omega
            clear hs'
            by_cases hlk : s.from_ = s'.to_
            · have HV := Lib.hid (validTo_succ H.out.2 (by rw [hgd]; exact HSO.out) (.inr (by rw [hgd, hgd']; exact hlk)))
              have hlk' : (s.from_ != s'.to_) = false := by simp [hlk]
              clear hgd hgd' hlk hk0
              go_wp2_with (go_at_call 21; refine (pco_any _ _).mono ?_; rintro e w' ⟨rfl, rfl⟩)
              refine wp_region_after (by kernel_rfl) (by kernel_rfl) ?_
              repeat (first | go_big_quiet_step (fail))
              refine wpQuiet_nil ?_
              rintro _ ⟨y, rfl⟩
              go_wp2
              go_roundg (p.length - (k + 1))
              case measure => have := HG.out; omega
              case rel => exact ⟨k + 1, by go_num, by omega, rfl, (H.out.1.alloc H.out.1.size _).trans (y.is.mono (by have := H.out.1.size; simp; omega)), HV.out⟩
            · have HV := Lib.hid (validB_false.2 (not_valid hlt (fun hh => by
                rcases hh.2 with h0 | h0
                · exact hk0 h0
                · rw [hgd, hgd'] at h0; exact hlk h0)))
              have hlk' : (s.from_ != s'.to_) = true := by simp [hlk]
              clear hgd hgd' hlk hk0
              go_wp2_with (go_at_call 21; refine (pco_any _ _).mono ?_; rintro e w' ⟨rfl, rfl⟩)
              refine wp_region_after (by kernel_rfl) (by kernel_rfl) ?_
              repeat (first | go_big_quiet_step (fail))
              refine wpQuiet_nil ?_
              rintro _ ⟨y, rfl⟩
              go_wp2
              go_ret
              exact ⟨ret_bool HV.out.symm, (H.out.1.alloc H.out.1.size _).trans (y.is.mono (by have := H.out.1.size; simp; omega))⟩
        · have HV := Lib.hid (validB_false.2 (not_valid hlt (fun hh => hseg (by rw [← hgd]; exact hh.1))))
          have key := bad_seg hseg
          clear hseg hgd
          rcases key with h1 | ⟨h1, h2⟩ | ⟨h1, h2, h3⟩ | ⟨h1, h2, h3, h4⟩ | ⟨h1, h2, h3, h4, h5⟩ | ⟨h1, h2, h3, h4, h5, h6⟩ | ⟨h1, h2, h3, h4, h5, h6, h7⟩
          all_goals go_wp2_with (go_at_call 21; refine (pco_any _ _).mono ?_; rintro e w' ⟨rfl, rfl⟩)
          all_goals go_ret
          all_goals exact ⟨ret_bool HV.out.symm, H.out.1.alloc H.out.1.size _⟩
      · have HV := Lib.hid (validB_true.2 (show Valid p from ⟨hl, fun i hi => H.out.2 i (by omega)⟩))
        go_wp2
        go_ret
        exact ⟨ret_bool HV.out.symm, H.out.1⟩
  · have hl' : decide (128 < p.length) = true := by simpa using hl
    have HV := Lib.hid (validB_false.2 (fun h : Valid p => hl h.1))
    go_enter Tryd.func10, Tryd.ntmps10
    go_wp2
    go_ret
    exact ⟨ret_bool HV.out.symm, Below.refl _ _⟩
end Go.Proofs.YtoodehilgogomaaDoor
