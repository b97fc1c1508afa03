/- Several texts in one: WProf, WProfB, WProfD, WProfE, WProfF. -/
import Derived.Test.YtbgmknkmfhpgeaaDoorOwn
import Derived.Test.YtbgmknkmfhpgeaaDoorPAll
import Derived.Deep.LoopGhost
import Derived.RegionTactic
set_option linter.unusedVariables false
set_option linter.unusedSimpArgs false
namespace Go.Proofs.YtbgmknkmfhpgeaaDoor
open Go.ChangeShapes Go.WideShapes Go.ChangeAt Go.RowKit
open Sg

def Sgc (s : Sgm) : List Value := [.int .i64 s.from_, .int .i64 s.to_, .int .i64 s.grade, .int .i64 s.speed]
theorem Sgc_len (s : Sgm) : (Sgc s).length = 4 := rfl
theorem Sgc_one (s : Sgm) : ∀ u ∈ Sgc s, u.oneCell' = true := by intro u hu; simp [Sgc] at hu; rcases hu with rfl | rfl | rfl | rfl <;> rfl
/-- The cells of the segment k, in the walk's own spelling. -/
theorem rd_seg {w wr : World} {A : Option Addr} {p : List Sgm} {k : Nat} (h : Rd w A 4 Sgc p) (hb : Below w.heap.size w wr) (hk : k < p.length) :
    ∃ b off s, A = some ⟨b, off, none⟩ ∧ p[k]? = some s ∧ b < wr.heap.size ∧ wr.cell? ⟨b, off + k * 4, none⟩ = some (.int .i64 s.from_) ∧ wr.cell? ⟨b, off + k * 4 + 1, none⟩ = some (.int .i64 s.to_) ∧ wr.cell? ⟨b, off + k * 4 + 1 + 1, none⟩ = some (.int .i64 s.grade) ∧ wr.cell? ⟨b, off + k * 4 + 1 + 1 + 1, none⟩ = some (.int .i64 s.speed) := by
  obtain ⟨b, off, rfl, h1, h2⟩ := h.keep hb (by omega)
  obtain ⟨s, hs⟩ : ∃ s, p[k]? = some s := ⟨_, List.getElem?_eq_getElem hk⟩
  exact ⟨b, off, s, rfl, hs, h1, h2 k s hs 0 _ rfl, h2 k s hs 1 _ rfl, h2 k s hs 2 _ rfl, h2 k s hs 3 _ rfl⟩
def coB (n : Int) : Bool := decide (-1073741824 ≤ n) && decide (n ≤ 1073741824)
theorem coB_true {n : Int} : coB n = true ↔ -1073741824 ≤ n ∧ n ≤ 1073741824 := by simp [coB]
theorem coB_false {n : Int} : coB n = false ↔ ¬ (-1073741824 ≤ n ∧ n ≤ 1073741824) := by simp [coB]
theorem pco_any (n : Int) (w : World) : Calls Tryd.prog 120 #[.int .i64 n] w fun e w' => e = .returned (.bool (coB n)) ∧ w = w' := by
  by_cases h1 : -1073741824 ≤ n
  · have HE : Hid (coB n = decide (n ≤ 1073741824)) := by show _ = _; simp [coB, h1]
    go_enter Tryd.func120, Tryd.ntmps120
    go_wp2
    go_ret
    exact ⟨ret_bool HE.out.symm, rfl⟩
  · have h1' : decide (-1073741824 ≤ n) = false := by simpa using h1
    have HE : Hid (coB n = false) := by show _ = _; simp [coB, h1']
    go_enter Tryd.func120, Tryd.ntmps120
    go_wp2
    go_ret
    exact ⟨ret_bool HE.out.symm, rfl⟩
theorem bad_seg {s : Sgm} (h : ¬ SegOk s) : (coB s.from_ = false) ∨ (coB s.from_ = true ∧ coB s.to_ = false) ∨ (coB s.from_ = true ∧ coB s.to_ = true ∧ s.to_ ≤ s.from_) ∨ (coB s.from_ = true ∧ coB s.to_ = true ∧ decide (s.to_ ≤ s.from_) = false ∧ s.grade < -50) ∨
    (coB s.from_ = true ∧ coB s.to_ = true ∧ decide (s.to_ ≤ s.from_) = false ∧ decide (s.grade < -50) = false ∧ 50 < s.grade) ∨ (coB s.from_ = true ∧ coB s.to_ = true ∧ decide (s.to_ ≤ s.from_) = false ∧ decide (s.grade < -50) = false ∧ decide (50 < s.grade) = false ∧ s.speed < 1) ∨
    (coB s.from_ = true ∧ coB s.to_ = true ∧ decide (s.to_ ≤ s.from_) = false ∧ decide (s.grade < -50) = false ∧ decide (50 < s.grade) = false ∧ decide (s.speed < 1) = false ∧ 10000 < s.speed) := by
  unfold SegOk at h
  simp only [coB_true, coB_false, decide_eq_false_iff_not]
  omega
set_option maxHeartbeats 4000000 in
theorem valid_any (A : Option Addr) (p : List Sgm) (cap : Nat) (w : World) (hm : p.length ≤ maxLen) (hr : Rd w A 4 Sgc p) : Calls Tryd.prog 103 #[.slice A p.length cap] w fun e w' => e = .returned (.bool (validB p)) ∧ Below w.heap.size w w' := by
  unfold maxLen at hm
  have HR := Lib.hid hr
  clear hr
  by_cases hl : p.length ≤ 128
  · have hl' : decide (128 < p.length) = false := by simpa using hl
    go_enter Tryd.func103, Tryd.ntmps103
    go_wp2
    go_loopg [10] p.length (fun g i wr => ∃ k : Nat, i = .int .i64 k ∧ k ≤ p.length ∧ g = p.length - k ∧ Hid (Below w.heap.size w wr ∧ ValidTo p k))
    case atStart => exact ⟨0, rfl, by omega, rfl, Below.refl _ _, validTo_zero p⟩
    case round =>
      obtain ⟨k, rfl, hk, hg, H⟩ := hrel
      have HG := Lib.hid hg
      clear hg
      by_cases hlt : k < p.length
      · obtain ⟨b, off, s, rfl, hs, hbs, c0, c1, c2, c3⟩ := rd_seg HR.out H.out.1 hlt
        have hgd := getD_of hs
        have HS := Lib.hid hs
        clear hs
        by_cases hseg : SegOk s
        · have q1 : coB s.from_ = true := coB_true.2 (by unfold SegOk at hseg; omega)
          have q2 : coB s.to_ = true := coB_true.2 (by unfold SegOk at hseg; omega)
          obtain ⟨g1, g2, g3, g4, g5, g6, g7⟩ := hseg
          have HSO : Hid (SegOk s) := ⟨g1, g2, g3, g4, g5, g6, g7⟩
          by_cases hk0 : k = 0
          · have HV := Lib.hid (validTo_succ H.out.2 (by rw [hgd]; exact HSO.out) (.inl hk0))
            have hk0' : decide ((0 : Int) < k) = false := by simp; omega
            have hk0n : decide (0 < k) = false := by simp; omega
            clear hgd hk0
            go_wp2_with (go_at_call 120; refine (pco_any _ _).mono ?_; rintro e w' ⟨rfl, rfl⟩)
            refine wp_region_after (by kernel_rfl) (by kernel_rfl) ?_
            repeat (first | go_big_quiet_step (fail))
            refine wpQuiet_nil ?_
            rintro _ ⟨y, rfl⟩
            go_wp2
            go_roundg (p.length - (k + 1))
            case measure => have := HG.out; omega
            case rel => exact ⟨k + 1, by go_num, by omega, rfl, (H.out.1.alloc H.out.1.size _).trans (y.is.mono (by have := H.out.1.size; simp; omega)), HV.out⟩
          · obtain ⟨b', off', s', hA, hs', _, _, d1, _, _⟩ := rd_seg (k := k - 1) HR.out H.out.1 (by omega)
            injection hA with hA
            injection hA with hA1 hA2
            subst hA1 hA2
            have hgd' := getD_of hs'
            have hk0' : decide ((0 : Int) < k) = true := by simp; omega
            have hk0n : 0 < k := by omega
            have hkp : (0 : Int) < k := by omega
            clear hs'
            by_cases hlk : s.from_ = s'.to_
            · have HV := Lib.hid (validTo_succ H.out.2 (by rw [hgd]; exact HSO.out) (.inr (by rw [hgd, hgd']; exact hlk)))
              have hlk' : (s.from_ != s'.to_) = false := by simp [hlk]
              clear hgd hgd' hlk hk0
              go_wp2_with (go_at_call 120; refine (pco_any _ _).mono ?_; rintro e w' ⟨rfl, rfl⟩)
              refine wp_region_after (by kernel_rfl) (by kernel_rfl) ?_
              repeat (first | go_big_quiet_step (fail))
              refine wpQuiet_nil ?_
              rintro _ ⟨y, rfl⟩
              go_wp2
              go_roundg (p.length - (k + 1))
              case measure => have := HG.out; omega
              case rel => exact ⟨k + 1, by go_num, by omega, rfl, (H.out.1.alloc H.out.1.size _).trans (y.is.mono (by have := H.out.1.size; simp; omega)), HV.out⟩
            · have HV := Lib.hid (validB_false.2 (not_valid hlt (fun hh => by
                rcases hh.2 with h0 | h0
                · exact hk0 h0
                · rw [hgd, hgd'] at h0; exact hlk h0)))
              have hlk' : (s.from_ != s'.to_) = true := by simp [hlk]
              clear hgd hgd' hlk hk0
              go_wp2_with (go_at_call 120; refine (pco_any _ _).mono ?_; rintro e w' ⟨rfl, rfl⟩)
              refine wp_region_after (by kernel_rfl) (by kernel_rfl) ?_
              repeat (first | go_big_quiet_step (fail))
              refine wpQuiet_nil ?_
              rintro _ ⟨y, rfl⟩
              go_wp2
              go_ret
              exact ⟨ret_bool HV.out.symm, (H.out.1.alloc H.out.1.size _).trans (y.is.mono (by have := H.out.1.size; simp; omega))⟩
        · have HV := Lib.hid (validB_false.2 (not_valid hlt (fun hh => hseg (by rw [← hgd]; exact hh.1))))
          have key := bad_seg hseg
          clear hseg hgd
          rcases key with h1 | ⟨h1, h2⟩ | ⟨h1, h2, h3⟩ | ⟨h1, h2, h3, h4⟩ | ⟨h1, h2, h3, h4, h5⟩ | ⟨h1, h2, h3, h4, h5, h6⟩ | ⟨h1, h2, h3, h4, h5, h6, h7⟩
          all_goals go_wp2_with (go_at_call 120; refine (pco_any _ _).mono ?_; rintro e w' ⟨rfl, rfl⟩)
          all_goals go_ret
          all_goals exact ⟨ret_bool HV.out.symm, H.out.1.alloc H.out.1.size _⟩
      · have HV := Lib.hid (validB_true.2 (show Valid p from ⟨hl, fun i hi => H.out.2 i (by omega)⟩))
        go_wp2
        go_ret
        exact ⟨ret_bool HV.out.symm, H.out.1⟩
  · have hl' : decide (128 < p.length) = true := by simpa using hl
    have HV := Lib.hid (validB_false.2 (fun h : Valid p => hl h.1))
    go_enter Tryd.func103, Tryd.ntmps103
    go_wp2
    go_ret
    exact ⟨ret_bool HV.out.symm, Below.refl _ _⟩
end Go.Proofs.YtbgmknkmfhpgeaaDoor

set_option linter.unusedVariables false
set_option linter.unusedSimpArgs false
namespace Go.Proofs.YtbgmknkmfhpgeaaDoor
open Go.ChangeShapes Go.WideShapes Go.ChangeAt Go.RowKit
open Sg

theorem bad_seg2 {s : Sgm} (h : ¬ SegOk s) : (s.from_ < -1073741824) ∨ (decide (s.from_ < -1073741824) = false ∧ s.to_ ≤ s.from_) ∨ (decide (s.from_ < -1073741824) = false ∧ decide (s.to_ ≤ s.from_) = false ∧ 1073741824 < s.to_) ∨
    (decide (s.from_ < -1073741824) = false ∧ decide (s.to_ ≤ s.from_) = false ∧ decide (1073741824 < s.to_) = false ∧ s.grade < -50) ∨
    (decide (s.from_ < -1073741824) = false ∧ decide (s.to_ ≤ s.from_) = false ∧ decide (1073741824 < s.to_) = false ∧ decide (s.grade < -50) = false ∧ 50 < s.grade) ∨
    (decide (s.from_ < -1073741824) = false ∧ decide (s.to_ ≤ s.from_) = false ∧ decide (1073741824 < s.to_) = false ∧ decide (s.grade < -50) = false ∧ decide (50 < s.grade) = false ∧ s.speed < 1) ∨
    (decide (s.from_ < -1073741824) = false ∧ decide (s.to_ ≤ s.from_) = false ∧ decide (1073741824 < s.to_) = false ∧ decide (s.grade < -50) = false ∧ decide (50 < s.grade) = false ∧ decide (s.speed < 1) = false ∧ 10000 < s.speed) := by
  unfold SegOk at h
  simp only [decide_eq_false_iff_not]
  omega
set_option maxHeartbeats 8000000 in
theorem rvalid_any (A : Option Addr) (p : List Sgm) (cap : Nat) (w : World) (hm : p.length ≤ maxLen) (hr : Rd w A 4 Sgc p) : Calls Tryd.prog 67 #[.slice A p.length cap] w fun e w' => e = .returned (.bool (validB p)) ∧ Below w.heap.size w w' := by
  unfold maxLen at hm
  have HR := Lib.hid hr
  clear hr
  go_enter Tryd.func67, Tryd.ntmps67
  go_wp2
  go_loopg [7] p.length (fun g i wr => ∃ k : Nat, i = .int .i64 k ∧ k ≤ p.length ∧ g = p.length - k ∧ Hid (Below w.heap.size w wr ∧ ValidTo p k))
  case atStart => exact ⟨0, rfl, by omega, rfl, Below.refl _ _, validTo_zero p⟩
  case round =>
    obtain ⟨k, rfl, hk, hg, H⟩ := hrel
    have HG := Lib.hid hg
    clear hg
    by_cases hlt : k < p.length
    · obtain ⟨b, off, s, rfl, hs, hbs, c0, c1, c2, c3⟩ := rd_seg HR.out H.out.1 hlt
      have hgd := getD_of hs
      have HS := Lib.hid hs
      clear hs
      by_cases hseg : SegOk s
      · have HSO := Lib.hid hseg
        obtain ⟨g1, g2, g3, g4, g5, g6, g7⟩ := hseg
        have r1 : decide (s.from_ < -1073741824) = false := by simp; omega
        have r2 : decide (s.to_ ≤ s.from_) = false := by simp; omega
        have r3 : decide (1073741824 < s.to_) = false := by simp; omega
        have r4 : decide (s.grade < -50) = false := by simp; omega
        have r5 : decide (50 < s.grade) = false := by simp; omega
        have r6 : decide (s.speed < 1) = false := by simp; omega
        have r7 : decide (10000 < s.speed) = false := by simp; omega
        by_cases hk0 : k = 0
        · have HV := Lib.hid (validTo_succ H.out.2 (by rw [hgd]; exact HSO.out) (.inl hk0))
          have hk0n : decide (0 < k) = false := by simp; omega
          clear hgd hk0
          go_wp2
          refine wp_region_after (by kernel_rfl) (by kernel_rfl) ?_
          repeat (first | go_big_quiet_step (fail))
          refine wpQuiet_nil ?_
          rintro _ ⟨y, rfl⟩
          go_wp2
          go_roundg (p.length - (k + 1))
          case measure => have := HG.out; omega
          case rel => exact ⟨k + 1, by go_num, by omega, rfl, (H.out.1.alloc H.out.1.size _).trans (y.is.mono (by have := H.out.1.size; simp; omega)), HV.out⟩
        · obtain ⟨b', off', s', hA, hs', _, _, d1, _, _⟩ := rd_seg (k := k - 1) HR.out H.out.1 (by omega)
          injection hA with hA
          injection hA with hA1 hA2
          subst hA1 hA2
          have hgd' := getD_of hs'
          have hk0' : decide ((0 : Int) < k) = true := by simp; omega
          have hk0n : 0 < k := by omega
          have hkp : (0 : Int) < k := by omega
          clear hs'
          by_cases hlk : s.from_ = s'.to_
          · have HV := Lib.hid (validTo_succ H.out.2 (by rw [hgd]; exact HSO.out) (.inr (by rw [hgd, hgd']; exact hlk)))
            have hlk' : (s'.to_ != s.from_) = false := by simp [hlk]
            clear hgd hgd' hlk hk0
            go_wp2
            refine wp_region_after (by kernel_rfl) (by kernel_rfl) ?_
            repeat (first | go_big_quiet_step (fail))
            refine wpQuiet_nil ?_
            rintro _ ⟨y, rfl⟩
            go_wp2
            go_roundg (p.length - (k + 1))
            case measure => have := HG.out; omega
            case rel => exact ⟨k + 1, by go_num, by omega, rfl, (H.out.1.alloc H.out.1.size _).trans (y.is.mono (by have := H.out.1.size; simp; omega)), HV.out⟩
          · have HV := Lib.hid (validB_false.2 (not_valid hlt (fun hh => by
              rcases hh.2 with h0 | h0
              · exact hk0 h0
              · rw [hgd, hgd'] at h0; exact hlk h0)))
            have hlk' : (s'.to_ != s.from_) = true := by simpa using fun h => hlk h.symm
            clear hgd hgd' hlk hk0
            go_wp2
            refine wp_region_after (by kernel_rfl) (by kernel_rfl) ?_
            repeat (first | go_big_quiet_step (fail))
            refine wpQuiet_nil ?_
            rintro _ ⟨y, rfl⟩
            go_wp2
            go_ret
            exact ⟨ret_bool HV.out.symm, (H.out.1.alloc H.out.1.size _).trans (y.is.mono (by have := H.out.1.size; simp; omega))⟩
      · have HV := Lib.hid (validB_false.2 (not_valid hlt (fun hh => hseg (by rw [← hgd]; exact hh.1))))
        have key := bad_seg2 hseg
        clear hseg hgd
        rcases key with h1 | ⟨h1, h2⟩ | ⟨h1, h2, h3⟩ | ⟨h1, h2, h3, h4⟩ | ⟨h1, h2, h3, h4, h5⟩ | ⟨h1, h2, h3, h4, h5, h6⟩ | ⟨h1, h2, h3, h4, h5, h6, h7⟩
        all_goals go_wp2
        all_goals refine wp_region_after (by kernel_rfl) (by kernel_rfl) ?_
        all_goals repeat (first | go_big_quiet_step (fail))
        all_goals refine wpQuiet_nil ?_
        all_goals rintro _ ⟨y, rfl⟩
        all_goals go_wp2
        all_goals go_ret
        all_goals exact ⟨ret_bool HV.out.symm, (H.out.1.alloc H.out.1.size _).trans (y.is.mono (by have := H.out.1.size; simp; omega))⟩
    · have HV : Hid (validB p = decide ((p.length : Int) ≤ 128)) := by
        show _ = _
        by_cases h : p.length ≤ 128
        · rw [validB_true.2 (show Valid p from ⟨h, fun i hi => H.out.2 i (by omega)⟩)]; simp; omega
        · rw [validB_false.2 (fun hh : Valid p => h hh.1)]; simp; omega
      go_wp2
      go_ret
      exact ⟨ret_bool HV.out.symm, H.out.1⟩
end Go.Proofs.YtbgmknkmfhpgeaaDoor

set_option linter.unusedVariables false
set_option linter.unusedSimpArgs false
namespace Go.Proofs.YtbgmknkmfhpgeaaDoor
open Go.ChangeShapes Go.WideShapes Go.ChangeAt Go.RowKit
open Sg

theorem touches_any (f t : Int) (s : Sgm) (w : World) : Calls Tryd.prog 122 #[.agg #[.int .i64 f, .int .i64 t], .agg #[.int .i64 s.from_, .int .i64 s.to_, .int .i64 s.grade, .int .i64 s.speed]] w fun e w' => e = .returned (.bool (touchB f t s)) ∧ Below w.heap.size w w' := by
  have HE : Hid (touchB f t s = _) := touchB.eq_def ..
  by_cases h1 : s.from_ ≤ t
  · go_enter Tryd.func122, Tryd.ntmps122
    go_wp2
    go_ret
    exact ⟨ret_bool (by rw [HE.out]; simp [h1]), ((Below.refl _ _).alloc (Nat.le_refl _) _).alloc (by simp) _⟩
  · have h1' : decide (s.from_ ≤ t) = false := by simpa using h1
    go_enter Tryd.func122, Tryd.ntmps122
    go_wp2
    go_ret
    exact ⟨ret_bool (by rw [HE.out]; simp [h1']), ((Below.refl _ _).alloc (Nat.le_refl _) _).alloc (by simp) _⟩
theorem vslow_any (s : Sgm) (w : World) : Calls Tryd.prog 133 #[.agg #[.int .i64 s.from_, .int .i64 s.to_, .int .i64 s.grade, .int .i64 s.speed]] w fun e w' => e = .returned (.int .i64 s.speed) ∧ Below w.heap.size w w' := by
  go_enter Tryd.func133, Tryd.ntmps133
  go_wp2
  go_ret
  exact ⟨rfl, (Below.refl _ _).alloc (Nat.le_refl _) _⟩
theorem vsteep_any (s : Sgm) (w : World) : Calls Tryd.prog 123 #[.agg #[.int .i64 s.from_, .int .i64 s.to_, .int .i64 s.grade, .int .i64 s.speed]] w fun e w' => e = .returned (.int .i64 s.grade) ∧ Below w.heap.size w w' := by
  go_enter Tryd.func123, Tryd.ntmps123
  go_wp2
  go_ret
  exact ⟨rfl, (Below.refl _ _).alloc (Nat.le_refl _) _⟩
set_option maxHeartbeats 8000000 in
theorem lslow_any (A : Option Addr) (p : List Sgm) (cap : Nat) (f t : Int) (w : World) (hm : p.length ≤ maxLen) (hr : Rd w A 4 Sgc p) :
    Calls Tryd.prog 121 #[.slice A p.length cap, .func (.func 122) #[.agg #[.int .i64 f, .int .i64 t]] #[], .func (.func 133) #[] #[]] w fun e w' => e = .returned (.int .i64 (slowV p f t)) ∧ Below w.heap.size w w' := by
  have HM := Lib.hid hm
  unfold maxLen at hm
  have HR := Lib.hid hr
  clear hr
  by_cases hv : validB p = true
  · have HE : Hid (slowV p f t = leastL ((p.filter (touchB f t)).map Sgm.speed)) := by show _ = _; rw [slowV, touL, if_pos hv]
    go_enter Tryd.func121, Tryd.ntmps121
    go_wp2_with fail
    refine (to_after (valid_any A p cap _ HM.out HR.out)).mono ?_
    rintro e w' ⟨y, rfl, rfl⟩
    go_wp2
    go_loopg [7, 8, 16] p.length (fun g res fnd i wr => ∃ (k : Nat) (r : Int) (fb : Bool), i = .int .i64 k ∧ k ≤ p.length ∧ g = p.length - k ∧ res = .int .i64 r ∧ fnd = .bool fb ∧ Hid (Below w.heap.size w wr ∧ r = leastL (((p.take k).filter (touchB f t)).map Sgm.speed) ∧ (fb = false ↔ (p.take k).filter (touchB f t) = [])))
    case atStart => exact ⟨0, 0, false, rfl, by omega, rfl, rfl, rfl, y.is, rfl, by simp⟩
    case round =>
      obtain ⟨k, r, fb, rfl, hk, hg, rfl, rfl, H⟩ := hrel
      have HG := Lib.hid hg
      clear hg
      by_cases hlt : k < p.length
      · obtain ⟨b, off, s, rfl, hs, hbs, c0, c1, c2, c3⟩ := rd_seg HR.out H.out.1 hlt
        have HT := Lib.hid (filter_take (g := touchB f t) hs)
        have hsz := H.out.1.size
        by_cases ht : touchB f t s = true
        · have HQ : Hid ((p.take (k + 1)).filter (touchB f t) = (p.take k).filter (touchB f t) ++ [s]) := by show _ = _; rw [HT.out, if_pos ht]
          clear hs HT
          cases fb
          · have HL : Hid (s.speed = leastL (((p.take (k + 1)).filter (touchB f t)).map Sgm.speed)) := by
              show _ = _
              rw [HQ.out, List.map_append, (H.out.2.2.1 rfl)]; rfl
            go_wp2_with (first
              | (go_at_call 122; refine (to_after (touches_any f t s _)).mono ?_; rintro e w' ⟨y1, rfl, rfl⟩)
              | (go_at_call 133; refine (in_after y1 (vslow_any s _)).mono ?_; rintro e w' ⟨y2, rfl, rfl⟩))
            go_roundg (p.length - (k + 1))
            case measure => have := HG.out; omega
            case rel => exact ⟨k + 1, _, true, by go_num, by omega, rfl, rfl, rfl, (H.out.1.alloc H.out.1.size _).trans (y2.is.mono (by simp; omega)), HL.out, by rw [HQ.out]; simp⟩
          · have hne : (p.take k).filter (touchB f t) ≠ [] := fun h => by have := H.out.2.2.2 h; cases this
            have HL : Hid (leastL (((p.take (k + 1)).filter (touchB f t)).map Sgm.speed) = min r s.speed) := by
              show _ = _
              rw [HQ.out, List.map_append, H.out.2.1, List.map_cons, List.map_nil, leastL_snoc, if_neg (by simpa using hne)]
            have HNE := Lib.hid hne
            clear hne
            by_cases hlt2 : s.speed < r
            · go_wp2_with (first
                | (go_at_call 122; refine (to_after (touches_any f t s _)).mono ?_; rintro e w' ⟨y1, rfl, rfl⟩)
                | (go_at_call 133; (with_reducible refine (in_after y2 (vslow_any s _)).mono ?_); rintro e w' ⟨y3, rfl, rfl⟩)
                | (go_at_call 133; (with_reducible refine (in_after y1 (vslow_any s _)).mono ?_); rintro e w' ⟨y2, rfl, rfl⟩))
              go_roundg (p.length - (k + 1))
              case measure => have := HG.out; omega
              case rel => exact ⟨k + 1, _, true, by go_num, by omega, rfl, rfl, rfl, (H.out.1.alloc H.out.1.size _).trans (y3.is.mono (by simp; omega)), by rw [HL.out]; omega, by rw [HQ.out]; simp⟩
            · have hlt3 : decide (s.speed < r) = false := by simpa using hlt2
              go_wp2_with (first
                | (go_at_call 122; refine (to_after (touches_any f t s _)).mono ?_; rintro e w' ⟨y1, rfl, rfl⟩)
                | (go_at_call 133; (with_reducible refine (in_after y1 (vslow_any s _)).mono ?_); rintro e w' ⟨y2, rfl, rfl⟩))
              go_roundg (p.length - (k + 1))
              case measure => have := HG.out; omega
              case rel => exact ⟨k + 1, _, true, by go_num, by omega, rfl, rfl, rfl, (H.out.1.alloc H.out.1.size _).trans (y2.is.mono (by simp; omega)), by rw [HL.out]; omega, by rw [HQ.out]; simp⟩
        · have ht' : touchB f t s = false := by simpa using ht
          have HQ : Hid ((p.take (k + 1)).filter (touchB f t) = (p.take k).filter (touchB f t)) := by show _ = _; rw [HT.out, if_neg ht]; simp
          clear hs HT ht
          go_wp2_with (go_at_call 122; refine (to_after (touches_any f t s _)).mono ?_; rintro e w' ⟨y1, rfl, rfl⟩)
          go_roundg (p.length - (k + 1))
          case measure => have := HG.out; omega
          case rel => exact ⟨k + 1, _, fb, by go_num, by omega, rfl, rfl, rfl, (H.out.1.alloc H.out.1.size _).trans (y1.is.mono (by simp; omega)), by rw [HQ.out]; exact H.out.2.1, by rw [HQ.out]; exact H.out.2.2⟩
      · have HL : Hid (r = leastL ((p.filter (touchB f t)).map Sgm.speed)) := by
          have := H.out.2.1
          rwa [List.take_of_length_le (by omega)] at this
        go_wp2
        go_ret
        exact ⟨ret_int (by rw [HE.out, HL.out]), H.out.1⟩
  · have hv' : validB p = false := by simpa using hv
    have HE : Hid (slowV p f t = 0) := by show _ = _; rw [slowV, touL, if_neg hv]; rfl
    clear hv
    go_enter Tryd.func121, Tryd.ntmps121
    go_wp2_with (go_at_call 103; refine (to_after (valid_any A p cap _ HM.out HR.out)).mono ?_; rintro e w' ⟨y, rfl, rfl⟩)
    go_ret
    exact ⟨ret_int HE.out.symm, y.is⟩
theorem slowest_any (A : Option Addr) (p : List Sgm) (cap : Nat) (f t : Int) (w : World) (hm : p.length ≤ maxLen) (hr : Rd w A 4 Sgc p) :
    Calls Tryd.prog 126 #[.slice A p.length cap, .int .i64 f, .int .i64 t] w fun e w' => e = .returned (.int .i64 (slowV p f t)) ∧ Below w.heap.size w w' := by
  have HM := Lib.hid hm
  have HR := Lib.hid hr
  clear hm hr
  go_enter Tryd.func126, Tryd.ntmps126
  go_wp2_with (go_at_call 121; refine (to_after (lslow_any A p cap f t _ HM.out HR.out)).mono ?_; rintro e w' ⟨y, rfl, rfl⟩)
  go_ret
  exact ⟨rfl, y.is⟩
set_option maxHeartbeats 8000000 in
theorem lsteep_any (A : Option Addr) (p : List Sgm) (cap : Nat) (f t : Int) (w : World) (hm : p.length ≤ maxLen) (hr : Rd w A 4 Sgc p) :
    Calls Tryd.prog 121 #[.slice A p.length cap, .func (.func 122) #[.agg #[.int .i64 f, .int .i64 t]] #[], .func (.func 123) #[] #[]] w fun e w' => e = .returned (.int .i64 (steepV p f t)) ∧ Below w.heap.size w w' := by
  have HM := Lib.hid hm
  unfold maxLen at hm
  have HR := Lib.hid hr
  clear hr
  by_cases hv : validB p = true
  · have HE : Hid (steepV p f t = leastL ((p.filter (touchB f t)).map Sgm.grade)) := by show _ = _; rw [steepV, touL, if_pos hv]
    go_enter Tryd.func121, Tryd.ntmps121
    go_wp2_with fail
    refine (to_after (valid_any A p cap _ HM.out HR.out)).mono ?_
    rintro e w' ⟨y, rfl, rfl⟩
    go_wp2
    go_loopg [7, 8, 16] p.length (fun g res fnd i wr => ∃ (k : Nat) (r : Int) (fb : Bool), i = .int .i64 k ∧ k ≤ p.length ∧ g = p.length - k ∧ res = .int .i64 r ∧ fnd = .bool fb ∧ Hid (Below w.heap.size w wr ∧ r = leastL (((p.take k).filter (touchB f t)).map Sgm.grade) ∧ (fb = false ↔ (p.take k).filter (touchB f t) = [])))
    case atStart => exact ⟨0, 0, false, rfl, by omega, rfl, rfl, rfl, y.is, rfl, by simp⟩
    case round =>
      obtain ⟨k, r, fb, rfl, hk, hg, rfl, rfl, H⟩ := hrel
      have HG := Lib.hid hg
      clear hg
      by_cases hlt : k < p.length
      · obtain ⟨b, off, s, rfl, hs, hbs, c0, c1, c2, c3⟩ := rd_seg HR.out H.out.1 hlt
        have HT := Lib.hid (filter_take (g := touchB f t) hs)
        have hsz := H.out.1.size
        by_cases ht : touchB f t s = true
        · have HQ : Hid ((p.take (k + 1)).filter (touchB f t) = (p.take k).filter (touchB f t) ++ [s]) := by show _ = _; rw [HT.out, if_pos ht]
          clear hs HT
          cases fb
          · have HL : Hid (s.grade = leastL (((p.take (k + 1)).filter (touchB f t)).map Sgm.grade)) := by
              show _ = _
              rw [HQ.out, List.map_append, (H.out.2.2.1 rfl)]; rfl
            go_wp2_with (first
              | (go_at_call 122; refine (to_after (touches_any f t s _)).mono ?_; rintro e w' ⟨y1, rfl, rfl⟩)
              | (go_at_call 123; refine (in_after y1 (vsteep_any s _)).mono ?_; rintro e w' ⟨y2, rfl, rfl⟩))
            go_roundg (p.length - (k + 1))
            case measure => have := HG.out; omega
            case rel => exact ⟨k + 1, _, true, by go_num, by omega, rfl, rfl, rfl, (H.out.1.alloc H.out.1.size _).trans (y2.is.mono (by simp; omega)), HL.out, by rw [HQ.out]; simp⟩
          · have hne : (p.take k).filter (touchB f t) ≠ [] := fun h => by have := H.out.2.2.2 h; cases this
            have HL : Hid (leastL (((p.take (k + 1)).filter (touchB f t)).map Sgm.grade) = min r s.grade) := by
              show _ = _
              rw [HQ.out, List.map_append, H.out.2.1, List.map_cons, List.map_nil, leastL_snoc, if_neg (by simpa using hne)]
            have HNE := Lib.hid hne
            clear hne
            by_cases hlt2 : s.grade < r
            · go_wp2_with (first
                | (go_at_call 122; refine (to_after (touches_any f t s _)).mono ?_; rintro e w' ⟨y1, rfl, rfl⟩)
                | (go_at_call 123; (with_reducible refine (in_after y2 (vsteep_any s _)).mono ?_); rintro e w' ⟨y3, rfl, rfl⟩)
                | (go_at_call 123; (with_reducible refine (in_after y1 (vsteep_any s _)).mono ?_); rintro e w' ⟨y2, rfl, rfl⟩))
              go_roundg (p.length - (k + 1))
              case measure => have := HG.out; omega
              case rel => exact ⟨k + 1, _, true, by go_num, by omega, rfl, rfl, rfl, (H.out.1.alloc H.out.1.size _).trans (y3.is.mono (by simp; omega)), by rw [HL.out]; omega, by rw [HQ.out]; simp⟩
            · have hlt3 : decide (s.grade < r) = false := by simpa using hlt2
              go_wp2_with (first
                | (go_at_call 122; refine (to_after (touches_any f t s _)).mono ?_; rintro e w' ⟨y1, rfl, rfl⟩)
                | (go_at_call 123; (with_reducible refine (in_after y1 (vsteep_any s _)).mono ?_); rintro e w' ⟨y2, rfl, rfl⟩))
              go_roundg (p.length - (k + 1))
              case measure => have := HG.out; omega
              case rel => exact ⟨k + 1, _, true, by go_num, by omega, rfl, rfl, rfl, (H.out.1.alloc H.out.1.size _).trans (y2.is.mono (by simp; omega)), by rw [HL.out]; omega, by rw [HQ.out]; simp⟩
        · have ht' : touchB f t s = false := by simpa using ht
          have HQ : Hid ((p.take (k + 1)).filter (touchB f t) = (p.take k).filter (touchB f t)) := by show _ = _; rw [HT.out, if_neg ht]; simp
          clear hs HT ht
          go_wp2_with (go_at_call 122; refine (to_after (touches_any f t s _)).mono ?_; rintro e w' ⟨y1, rfl, rfl⟩)
          go_roundg (p.length - (k + 1))
          case measure => have := HG.out; omega
          case rel => exact ⟨k + 1, _, fb, by go_num, by omega, rfl, rfl, rfl, (H.out.1.alloc H.out.1.size _).trans (y1.is.mono (by simp; omega)), by rw [HQ.out]; exact H.out.2.1, by rw [HQ.out]; exact H.out.2.2⟩
      · have HL : Hid (r = leastL ((p.filter (touchB f t)).map Sgm.grade)) := by
          have := H.out.2.1
          rwa [List.take_of_length_le (by omega)] at this
        go_wp2
        go_ret
        exact ⟨ret_int (by rw [HE.out, HL.out]), H.out.1⟩
  · have hv' : validB p = false := by simpa using hv
    have HE : Hid (steepV p f t = 0) := by show _ = _; rw [steepV, touL, if_neg hv]; rfl
    clear hv
    go_enter Tryd.func121, Tryd.ntmps121
    go_wp2_with (go_at_call 103; refine (to_after (valid_any A p cap _ HM.out HR.out)).mono ?_; rintro e w' ⟨y, rfl, rfl⟩)
    go_ret
    exact ⟨ret_int HE.out.symm, y.is⟩
theorem steepest_any (A : Option Addr) (p : List Sgm) (cap : Nat) (f t : Int) (w : World) (hm : p.length ≤ maxLen) (hr : Rd w A 4 Sgc p) :
    Calls Tryd.prog 105 #[.slice A p.length cap, .int .i64 f, .int .i64 t] w fun e w' => e = .returned (.int .i64 (steepV p f t)) ∧ Below w.heap.size w w' := by
  have HM := Lib.hid hm
  have HR := Lib.hid hr
  clear hm hr
  go_enter Tryd.func105, Tryd.ntmps105
  go_wp2_with (go_at_call 121; refine (to_after (lsteep_any A p cap f t _ HM.out HR.out)).mono ?_; rintro e w' ⟨y, rfl, rfl⟩)
  go_ret
  exact ⟨rfl, y.is⟩
end Go.Proofs.YtbgmknkmfhpgeaaDoor

set_option linter.unusedVariables false
set_option linter.unusedSimpArgs false
namespace Go.Proofs.YtbgmknkmfhpgeaaDoor
open Go.ChangeShapes Go.WideShapes Go.ChangeAt Go.RowKit
open Sg

theorem seg_info : (Tryd.prog.info? 77).map (fun i => (i.zero, i.size, i.bytes)) = some (some (.agg #[.int .i64 0, .int .i64 0, .int .i64 0, .int .i64 0]), 4, 32) := by kernel_rfl
theorem OwnL.alloc {α : Type} {w : World} {base : Nat} {e : TypeId} {k : Nat} {enc : α → List Value} {v : Value} {xs : List α} (h : OwnL w base e k enc v xs) (o : Obj) : OwnL (w.alloc o) base e k enc v xs := World.ownsRow.alloc h o
open Classical in
noncomputable def sameL (a b : List Sgm) : Bool := decide (a = b)
theorem sameL_true {a b : List Sgm} : sameL a b = true ↔ a = b := by simp [sameL]
theorem sameL_false {a b : List Sgm} : sameL a b = false ↔ a ≠ b := by simp [sameL]
set_option maxHeartbeats 4000000 in
theorem same_any (A B : Option Addr) (p q : List Sgm) (c d : Nat) (w : World) (hm : p.length ≤ maxLen) (hm2 : q.length ≤ maxLen) (hr : Rd w A 4 Sgc p) (hr2 : Rd w B 4 Sgc q) :
    Calls Tryd.prog 47 #[.slice A p.length c, .slice B q.length d] w fun e w' => e = .returned (.bool (sameL p q)) ∧ Below w.heap.size w w' := by
  unfold maxLen at hm hm2
  have HR := Lib.hid hr
  have HR2 := Lib.hid hr2
  clear hr hr2
  by_cases hl : p.length = q.length
  · have hl' : ((p.length : Int) != (q.length : Int)) = false := by simp [hl]
    have HL := Lib.hid hl
    clear hl
    go_enter Tryd.func47, Tryd.ntmps47
    go_wp2
    go_loopg [13] p.length (fun g i wr => ∃ k : Nat, i = .int .i64 k ∧ k ≤ p.length ∧ g = p.length - k ∧ Hid (Below w.heap.size w wr ∧ ∀ j : Nat, j < k → p[j]? = q[j]?))
    case atStart => exact ⟨0, rfl, by omega, rfl, Below.refl _ _, fun j h => absurd h (by omega)⟩
    case round =>
      obtain ⟨k, rfl, hk, hg, H⟩ := hrel
      have HG := Lib.hid hg
      clear hg
      by_cases hlt : k < p.length
      · obtain ⟨b, off, s, rfl, hs, hbs, c0, c1, c2, c3⟩ := rd_seg HR.out H.out.1 hlt
        have hlt2 : k < q.length := by have := HL.out; omega
        obtain ⟨b', off', s', rfl, hs', hbs', d0, d1, d2, d3⟩ := rd_seg HR2.out H.out.1 hlt2
        by_cases he : s = s'
        · subst he
          have HN : Hid (∀ j : Nat, j < k + 1 → p[j]? = q[j]?) := fun j hj => by
            by_cases e : j = k
            · subst e; rw [hs, hs']
            · exact H.out.2 j (by omega)
          clear hs hs'
          go_wp2
          refine wp_region_after (by kernel_rfl) (by kernel_rfl) ?_
          repeat (first | go_big_quiet_step (fail))
          refine wpQuiet_nil ?_
          rintro _ ⟨y, rfl⟩
          go_wp2
          go_roundg (p.length - (k + 1))
          case measure => have := HG.out; omega
          case rel => exact ⟨k + 1, by go_num, by omega, rfl, H.out.1.trans (y.is.mono H.out.1.size), HN.out⟩
        · have HV := Lib.hid (sameL_false.2 (show p ≠ q from fun e => he (by rw [e, hs'] at hs; cases hs; rfl)))
          have key : (s.from_ == s'.from_) = false ∨ ((s.from_ == s'.from_) = true ∧ (s.to_ == s'.to_) = false) ∨ ((s.from_ == s'.from_) = true ∧ (s.to_ == s'.to_) = true ∧ (s.grade == s'.grade) = false) ∨ ((s.from_ == s'.from_) = true ∧ (s.to_ == s'.to_) = true ∧ (s.grade == s'.grade) = true ∧ (s.speed == s'.speed) = false) := by
            simp only [beq_iff_eq, beq_eq_false_iff_ne]
            refine Classical.byContradiction fun h => he (Sgm.eq ?_ ?_ ?_ ?_) <;> omega
          clear hs hs' he
          rcases key with k1 | ⟨k1, k2⟩ | ⟨k1, k2, k3⟩ | ⟨k1, k2, k3, k4⟩
          all_goals go_wp2
          all_goals refine wp_region_after (by kernel_rfl) (by kernel_rfl) ?_
          all_goals repeat (first | go_big_quiet_step (fail))
          all_goals refine wpQuiet_nil ?_
          all_goals rintro _ ⟨y, rfl⟩
          all_goals go_wp2
          all_goals go_ret
          all_goals exact ⟨ret_bool HV.out.symm, H.out.1.trans (y.is.mono H.out.1.size)⟩
      · have HV := Lib.hid (sameL_true.2 (show p = q from List.ext_getElem? fun j => by
          by_cases hj : j < k
          · exact H.out.2 j hj
          · rw [List.getElem?_eq_none (by omega), List.getElem?_eq_none (by have := HL.out; omega)]))
        go_wp2
        go_ret
        exact ⟨ret_bool HV.out.symm, H.out.1⟩
  · have hl' : ((p.length : Int) != (q.length : Int)) = true := by simp; omega
    have HV := Lib.hid (sameL_false.2 (show p ≠ q from fun e => hl (by rw [e])))
    clear hl
    go_enter Tryd.func47, Tryd.ntmps47
    go_wp2
    go_ret
    exact ⟨ret_bool HV.out.symm, Below.refl _ _⟩
noncomputable def touT (p : List Sgm) (f t : Int) (k : Nat) : List Sgm := if validB p = true then (p.take k).filter (touchB f t) else []
theorem touT_len (p : List Sgm) (f t : Int) (k : Nat) : (touT p f t k).length ≤ k := by
  unfold touT; split
  · have := List.length_filter_le (touchB f t) (p.take k); simp at this; omega
  · simp
set_option maxHeartbeats 4000000 in
theorem touched_any (A : Option Addr) (p : List Sgm) (cap : Nat) (f t : Int) (w : World) (hm : p.length ≤ 1000000) (hr : Rd w A 4 Sgc p) :
    Calls Tryd.prog 128 #[.slice A p.length cap, .int .i64 f, .int .i64 t] w fun e w' => ∃ v, e = .returned v ∧ OwnL w' w.heap.size 77 4 Sgc v (touL p f t) ∧ Below w.heap.size w w' := by
  have HM : Hid (p.length ≤ maxLen) := by show _ ≤ _; unfold maxLen; omega
  have HR := Lib.hid hr
  clear hr
  obtain ⟨i0, hi, hz0, hz1, hz2⟩ := info_parts seg_info
  obtain ⟨vb, hvb⟩ : ∃ vb, validB p = vb := ⟨_, rfl⟩
  have HVB := Lib.hid hvb
  go_enter Tryd.func128, Tryd.ntmps128
  go_wp2
  go_loopg [7, 12] p.length (fun g v i wr => ∃ k : Nat, i = .int .i64 k ∧ k ≤ p.length ∧ g = p.length - k ∧ Hid (Below w.heap.size w wr ∧ OwnL wr w.heap.size 77 4 Sgc v (touT p f t k)))
  case atStart => exact ⟨0, rfl, by omega, rfl, Below.refl _ _, by have : touT p f t 0 = [] := (by unfold touT; split <;> simp); rw [this]; exact OwnL.nil⟩
  case round =>
    obtain ⟨k, rfl, hk, hg, H⟩ := hrel
    have HG := Lib.hid hg
    clear hg
    by_cases hlt : k < p.length
    · obtain ⟨b, off, s, rfl, hs, hbs, c0, c1, c2, c3⟩ := rd_seg HR.out H.out.1 hlt
      have HT := Lib.hid (filter_take (g := touchB f t) hs)
      have HRw := Lib.hid ((HR.out.keep H.out.1).keep ((Below.refl wr.heap.size wr).alloc (Nat.le_refl _) (.cells #[.int .i64 s.from_, .int .i64 s.to_, .int .i64 s.grade, .int .i64 s.speed] 77)))
      have hsz := H.out.1.size
      have hlen := touT_len p f t k
      clear hs
      cases vb
      · have HQ : Hid (touT p f t (k + 1) = touT p f t k) := by show _ = _; rw [touT, touT, HVB.out]; rfl
        go_wp2_with (go_at_call 67; refine (to_after (rvalid_any _ p cap _ HM.out HRw.out)).mono ?_; rintro e w' ⟨y, rfl, rfl⟩)
        go_roundg (p.length - (k + 1))
        case measure => have := HG.out; omega
        case rel => exact ⟨k + 1, by go_num, by omega, rfl, (H.out.1.alloc H.out.1.size _).trans (y.is.mono (by simp; omega)), by rw [HQ.out]; exact (H.out.2.alloc _).keep y.is⟩
      · by_cases ht : touchB f t s = true
        · have HQ : Hid (touT p f t (k + 1) = touT p f t k ++ [s]) := by show _ = _; rw [touT, touT, if_pos HVB.out, if_pos HVB.out, HT.out, if_pos ht]
          have ht' : s.from_ ≤ t ∧ f ≤ s.to_ := by simpa [touchB] using ht
          obtain ⟨t1, t2⟩ := ht'
          clear ht
          go_wp2_with (first
            | (go_at_call 67; refine (to_after (rvalid_any _ p cap _ HM.out HRw.out)).mono ?_; rintro e w' ⟨y, rfl, rfl⟩)
            | (at_builtin
               refine wp_app1 Sgc_len Sgc_one Tryd.underlying26 hi hz0 hz1 hz2 rfl (by decide) rfl rfl rfl (((H.out.2.alloc _).keep y.is).alloc _) s y.val.heap.size rfl (by exact CellsAt.new rfl) (by omega) (by unfold maxLen; omega) (by have := y.is.size; simp at this ⊢; omega) ?_
               intro v1 w1 ho1 hg1 hat1
               have HO1 := Lib.hid ho1
               have HB1 := Lib.hid (OwnL.app_below (((H.out.1.alloc H.out.1.size _).trans (y.is.mono (by simp; omega))).alloc (by have := y.is.size; simp at this; omega) _) (by have := y.is.size; simp at this ⊢; omega) (fun b hb => (H.out.2.lt b hb).1) hg1)
               clear ho1 hg1 hat1))
          go_roundg (p.length - (k + 1))
          case measure => have := HG.out; omega
          case rel => exact ⟨k + 1, by go_num, by omega, rfl, HB1.out, by rw [HQ.out]; exact HO1.out⟩
        · have HQ : Hid (touT p f t (k + 1) = touT p f t k) := by show _ = _; rw [touT, touT, if_pos HVB.out, if_pos HVB.out, HT.out, if_neg ht]; simp
          have ht' : decide (s.from_ ≤ t) = false ∨ (s.from_ ≤ t ∧ decide (f ≤ s.to_) = false) := by
            have : ¬ (s.from_ ≤ t ∧ f ≤ s.to_) := by simpa [touchB] using ht
            simp; omega
          clear ht
          rcases ht' with t1 | ⟨t1, t2⟩
          all_goals go_wp2_with (go_at_call 67; refine (to_after (rvalid_any _ p cap _ HM.out HRw.out)).mono ?_; rintro e w' ⟨y, rfl, rfl⟩)
          all_goals go_roundg (p.length - (k + 1))
          all_goals first | (case measure => have := HG.out; omega) | skip
          all_goals exact ⟨k + 1, by go_num, by omega, rfl, (H.out.1.alloc H.out.1.size _).trans (y.is.mono (by simp; omega)), by rw [HQ.out]; exact (H.out.2.alloc _).keep y.is⟩
    · have HQ : Hid (touT p f t k = touL p f t) := by show _ = _; rw [touT, touL, List.take_of_length_le (by omega)]
      go_wp2
      go_ret
      exact ⟨_, rfl, by rw [← HQ.out]; exact H.out.2, H.out.1⟩
end Go.Proofs.YtbgmknkmfhpgeaaDoor

set_option linter.unusedVariables false
set_option linter.unusedSimpArgs false
namespace Go.Proofs.YtbgmknkmfhpgeaaDoor
open Go.ChangeShapes Go.WideShapes Go.ChangeAt Go.RowKit
open Sg

set_option maxHeartbeats 4000000 in
theorem rslow_any (A : Option Addr) (p : List Sgm) (cap : Nat) (f t : Int) (w : World) (hm : p.length ≤ 1000000) (hr : Rd w A 4 Sgc p) :
    Calls Tryd.prog 129 #[.slice A p.length cap, .int .i64 f, .int .i64 t] w fun e w' => e = .returned (.int .i64 (slowV p f t)) ∧ Below w.heap.size w w' := by
  have HR := Lib.hid hr
  clear hr
  have HE : Hid (slowV p f t = leastL ((touL p f t).map Sgm.speed)) := rfl
  have hln := touL_len p f t
  go_enter Tryd.func129, Tryd.ntmps129
  go_wp2_with fail
  refine (touched_any A p cap f t _ hm HR.out).mono ?_
  rintro e w' ⟨v, rfl, ho, hb⟩
  obtain ⟨q, hq⟩ : ∃ q, q = touL p f t := ⟨_, rfl⟩
  rw [← hq] at ho hln HE
  obtain ⟨A1, cap1, rfl, hr1, _⟩ := ho.rd Sgc_len
  have HB := Lib.hid hb
  have HR1 := Lib.hid hr1
  clear ho hb hr1 hq
  go_wp2
  go_loopg [7, 15] q.length (fun g res i wr => ∃ (k : Nat) (r : Int), i = .int .i64 k ∧ k ≤ q.length ∧ g = q.length - k ∧ res = .int .i64 r ∧ Hid (Below w'.heap.size w' wr ∧ r = leastL ((q.take k).map Sgm.speed)))
  case atStart => exact ⟨0, 0, rfl, by omega, rfl, rfl, Below.refl _ _, rfl⟩
  case round =>
    obtain ⟨k, r, rfl, hk, hg, rfl, H⟩ := hrel
    have HG := Lib.hid hg
    clear hg
    by_cases hlt : k < q.length
    · obtain ⟨b, off, s, rfl, hs, hbs, c0, c1, c2, c3⟩ := rd_seg HR1.out H.out.1 hlt
      have HT : Hid ((q.take (k + 1)).map Sgm.speed = (q.take k).map Sgm.speed ++ [s.speed]) := by
        show _ = _
        obtain ⟨hl, rfl⟩ := List.getElem?_eq_some_iff.1 hs
        rw [List.take_succ_eq_append_getElem hl, List.map_append]; rfl
      clear hs
      by_cases hk0 : k = 0
      · have hk0' : ((k : Int) == 0) = true := by simp [hk0]
        have HL : Hid (leastL ((q.take (k + 1)).map Sgm.speed) = s.speed) := by show _ = _; rw [HT.out, hk0]; rfl
        clear hk0
        go_wp2
        go_roundg (q.length - (k + 1))
        case measure => have := HG.out; omega
        case rel => exact ⟨k + 1, _, by go_num, by omega, rfl, rfl, H.out.1.alloc H.out.1.size _, HL.out.symm⟩
      · have hk0' : ((k : Int) == 0) = false := by simp; omega
        have HL : Hid (leastL ((q.take (k + 1)).map Sgm.speed) = min r s.speed) := by
          show _ = _
          rw [HT.out, leastL_snoc, if_neg (by
            intro h
            have := congrArg List.length h
            rw [List.length_map, List.length_take, List.length_nil] at this; omega), H.out.2]
        clear hk0
        by_cases hlt2 : s.speed < r
        · go_wp2
          go_roundg (q.length - (k + 1))
          case measure => have := HG.out; omega
          case rel => exact ⟨k + 1, _, by go_num, by omega, rfl, rfl, H.out.1.alloc H.out.1.size _, by rw [HL.out]; omega⟩
        · have hlt3 : decide (s.speed < r) = false := by simpa using hlt2
          go_wp2
          go_roundg (q.length - (k + 1))
          case measure => have := HG.out; omega
          case rel => exact ⟨k + 1, _, by go_num, by omega, rfl, rfl, H.out.1.alloc H.out.1.size _, by rw [HL.out]; omega⟩
    · have HL : Hid (r = leastL (q.map Sgm.speed)) := by
        have := H.out.2
        rwa [List.take_of_length_le (by omega)] at this
      go_wp2
      go_ret
      exact ⟨ret_int (by rw [HE.out, HL.out]), HB.out.trans (H.out.1.mono HB.out.size)⟩
set_option maxHeartbeats 4000000 in
theorem rsteep_any (A : Option Addr) (p : List Sgm) (cap : Nat) (f t : Int) (w : World) (hm : p.length ≤ 1000000) (hr : Rd w A 4 Sgc p) :
    Calls Tryd.prog 111 #[.slice A p.length cap, .int .i64 f, .int .i64 t] w fun e w' => e = .returned (.int .i64 (steepV p f t)) ∧ Below w.heap.size w w' := by
  have HR := Lib.hid hr
  clear hr
  have HE : Hid (steepV p f t = leastL ((touL p f t).map Sgm.grade)) := rfl
  have hln := touL_len p f t
  go_enter Tryd.func111, Tryd.ntmps111
  go_wp2_with fail
  refine (touched_any A p cap f t _ hm HR.out).mono ?_
  rintro e w' ⟨v, rfl, ho, hb⟩
  obtain ⟨q, hq⟩ : ∃ q, q = touL p f t := ⟨_, rfl⟩
  rw [← hq] at ho hln HE
  obtain ⟨A1, cap1, rfl, hr1, _⟩ := ho.rd Sgc_len
  have HB := Lib.hid hb
  have HR1 := Lib.hid hr1
  clear ho hb hr1 hq
  go_wp2
  go_loopg [7, 15] q.length (fun g res i wr => ∃ (k : Nat) (r : Int), i = .int .i64 k ∧ k ≤ q.length ∧ g = q.length - k ∧ res = .int .i64 r ∧ Hid (Below w'.heap.size w' wr ∧ r = leastL ((q.take k).map Sgm.grade)))
  case atStart => exact ⟨0, 0, rfl, by omega, rfl, rfl, Below.refl _ _, rfl⟩
  case round =>
    obtain ⟨k, r, rfl, hk, hg, rfl, H⟩ := hrel
    have HG := Lib.hid hg
    clear hg
    by_cases hlt : k < q.length
    · obtain ⟨b, off, s, rfl, hs, hbs, c0, c1, c2, c3⟩ := rd_seg HR1.out H.out.1 hlt
      have HT : Hid ((q.take (k + 1)).map Sgm.grade = (q.take k).map Sgm.grade ++ [s.grade]) := by
        show _ = _
        obtain ⟨hl, rfl⟩ := List.getElem?_eq_some_iff.1 hs
        rw [List.take_succ_eq_append_getElem hl, List.map_append]; rfl
      clear hs
      by_cases hk0 : k = 0
      · have hk0' : ((k : Int) == 0) = true := by simp [hk0]
        have HL : Hid (leastL ((q.take (k + 1)).map Sgm.grade) = s.grade) := by show _ = _; rw [HT.out, hk0]; rfl
        clear hk0
        go_wp2
        go_roundg (q.length - (k + 1))
        case measure => have := HG.out; omega
        case rel => exact ⟨k + 1, _, by go_num, by omega, rfl, rfl, H.out.1.alloc H.out.1.size _, HL.out.symm⟩
      · have hk0' : ((k : Int) == 0) = false := by simp; omega
        have HL : Hid (leastL ((q.take (k + 1)).map Sgm.grade) = min r s.grade) := by
          show _ = _
          rw [HT.out, leastL_snoc, if_neg (by
            intro h
            have := congrArg List.length h
            rw [List.length_map, List.length_take, List.length_nil] at this; omega), H.out.2]
        clear hk0
        by_cases hlt2 : s.grade < r
        · go_wp2
          go_roundg (q.length - (k + 1))
          case measure => have := HG.out; omega
          case rel => exact ⟨k + 1, _, by go_num, by omega, rfl, rfl, H.out.1.alloc H.out.1.size _, by rw [HL.out]; omega⟩
        · have hlt3 : decide (s.grade < r) = false := by simpa using hlt2
          go_wp2
          go_roundg (q.length - (k + 1))
          case measure => have := HG.out; omega
          case rel => exact ⟨k + 1, _, by go_num, by omega, rfl, rfl, H.out.1.alloc H.out.1.size _, by rw [HL.out]; omega⟩
    · have HL : Hid (r = leastL (q.map Sgm.grade)) := by
        have := H.out.2
        rwa [List.take_of_length_le (by omega)] at this
      go_wp2
      go_ret
      exact ⟨ret_int (by rw [HE.out, HL.out]), HB.out.trans (H.out.1.mono HB.out.size)⟩
end Go.Proofs.YtbgmknkmfhpgeaaDoor
