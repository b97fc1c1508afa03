/- Walks of package profile and of its reference: Slowest, Steepest. -/
import Derived.Test.YtoodehilgogomaaDoorWProf
set_option linter.unusedVariables false
set_option linter.unusedSimpArgs false
namespace Go.Proofs.YtoodehilgogomaaDoor
open Go.ChangeShapes Go.WideShapes Go.ChangeAt Go.RowKit
open Sg

theorem touches_any (f t : Int) (s : Sgm) (w : World) : Calls Tryd.prog 36 #[.agg #[.int .i64 f, .int .i64 t], .agg #[.int .i64 s.from_, .int .i64 s.to_, .int .i64 s.grade, .int .i64 s.speed]] w fun e w' => e = .returned (.bool (touchB f t s)) ∧ Below w.heap.size w w' := by
  have HE : Hid (touchB f t s = _) := touchB.eq_def ..
  by_cases h1 : s.from_ ≤ t
  · go_enter Tryd.func36, Tryd.ntmps36
    go_wp2
    go_ret
    exact ⟨ret_bool (by rw [HE.out]; simp [h1]), ((Below.refl _ _).alloc (Nat.le_refl _) _).alloc (by simp) _⟩
  · have h1' : decide (s.from_ ≤ t) = false := by simpa using h1
    go_enter Tryd.func36, Tryd.ntmps36
    go_wp2
    go_ret
    exact ⟨ret_bool (by rw [HE.out]; simp [h1']), ((Below.refl _ _).alloc (Nat.le_refl _) _).alloc (by simp) _⟩
theorem vslow_any (s : Sgm) (w : World) : Calls Tryd.prog 37 #[.agg #[.int .i64 s.from_, .int .i64 s.to_, .int .i64 s.grade, .int .i64 s.speed]] w fun e w' => e = .returned (.int .i64 s.speed) ∧ Below w.heap.size w w' := by
  go_enter Tryd.func37, Tryd.ntmps37
  go_wp2
  go_ret
  exact ⟨rfl, (Below.refl _ _).alloc (Nat.le_refl _) _⟩
theorem vsteep_any (s : Sgm) (w : World) : Calls Tryd.prog 38 #[.agg #[.int .i64 s.from_, .int .i64 s.to_, .int .i64 s.grade, .int .i64 s.speed]] w fun e w' => e = .returned (.int .i64 s.grade) ∧ Below w.heap.size w w' := by
  go_enter Tryd.func38, Tryd.ntmps38
  go_wp2
  go_ret
  exact ⟨rfl, (Below.refl _ _).alloc (Nat.le_refl _) _⟩
set_option maxHeartbeats 8000000 in
theorem lslow_any (A : Option Addr) (p : List Sgm) (cap : Nat) (f t : Int) (w : World) (hm : p.length ≤ maxLen) (hr : Rd w A 4 Sgc p) :
    Calls Tryd.prog 35 #[.slice A p.length cap, .func (.func 36) #[.agg #[.int .i64 f, .int .i64 t]] #[], .func (.func 37) #[] #[]] w fun e w' => e = .returned (.int .i64 (slowV p f t)) ∧ Below w.heap.size w w' := by
  have HM := Lib.hid hm
  unfold maxLen at hm
  have HR := Lib.hid hr
  clear hr
  by_cases hv : validB p = true
  · have HE : Hid (slowV p f t = leastL ((p.filter (touchB f t)).map Sgm.speed)) := by show _ = _; rw [slowV, touL, if_pos hv]
    go_enter Tryd.func35, Tryd.ntmps35
    go_wp2_with fail
    refine (to_after (valid_any A p cap _ HM.out HR.out)).mono ?_
    rintro e w' ⟨y, rfl, rfl⟩
    go_wp2
    go_loopg [7, 8, 16] p.length (fun g res fnd i wr => ∃ (k : Nat) (r : Int) (fb : Bool), i = .int .i64 k ∧ k ≤ p.length ∧ g = p.length - k ∧ res = .int .i64 r ∧ fnd = .bool fb ∧ Hid (Below w.heap.size w wr ∧ r = leastL (((p.take k).filter (touchB f t)).map Sgm.speed) ∧ (fb = false ↔ (p.take k).filter (touchB f t) = [])))
    case atStart => exact ⟨0, 0, false, rfl, by omega, rfl, rfl, rfl, y.is, rfl, by simp⟩
    case round =>
      obtain ⟨k, r, fb, rfl, hk, hg, rfl, rfl, H⟩ := hrel
      have HG := Lib.hid hg
      clear hg
      by_cases hlt : k < p.length
      · obtain ⟨b, off, s, rfl, hs, hbs, c0, c1, c2, c3⟩ := rd_seg HR.out H.out.1 hlt
        have HT := Lib.hid (filter_take (g := touchB f t) hs)
        have hsz := H.out.1.size
        by_cases ht : touchB f t s = true
        · have HQ : Hid ((p.take (k + 1)).filter (touchB f t) = (p.take k).filter (touchB f t) ++ [s]) := by show _ = _; rw [HT.out, if_pos ht]
          clear hs HT
          cases fb
          · have HL : Hid (s.speed = leastL (((p.take (k + 1)).filter (touchB f t)).map Sgm.speed)) := by
              show _ = _
              rw [HQ.out, List.map_append, (H.out.2.2.1 rfl)]; rfl
            go_wp2_with (first
              | (go_at_call 36; refine (to_after (touches_any f t s _)).mono ?_; rintro e w' ⟨y1, rfl, rfl⟩)
              | (go_at_call 37; refine (in_after y1 (vslow_any s _)).mono ?_; rintro e w' ⟨y2, rfl, rfl⟩))
            go_roundg (p.length - (k + 1))
            case measure => have := HG.out; omega
            case rel => exact ⟨k + 1, _, true, by go_num, by omega, rfl, rfl, rfl, (H.out.1.alloc H.out.1.size _).trans (y2.is.mono (by simp; omega)), HL.out, by rw [HQ.out]; simp⟩
          · have hne : (p.take k).filter (touchB f t) ≠ [] := fun h => by have := H.out.2.2.2 h; cases this
            have HL : Hid (leastL (((p.take (k + 1)).filter (touchB f t)).map Sgm.speed) = min r s.speed) := by
              show _ = _
              rw [HQ.out, List.map_append, H.out.2.1, List.map_cons, List.map_nil, leastL_snoc, if_neg (by simpa using hne)]
            have HNE := Lib.hid hne
            clear hne
            by_cases hlt2 : s.speed < r
            · go_wp2_with (first
                | (go_at_call 36; refine (to_after (touches_any f t s _)).mono ?_; rintro e w' ⟨y1, rfl, rfl⟩)
                | (go_at_call 37; (with_reducible refine (in_after y2 (vslow_any s _)).mono ?_); rintro e w' ⟨y3, rfl, rfl⟩)
                | (go_at_call 37; (with_reducible refine (in_after y1 (vslow_any s _)).mono ?_); rintro e w' ⟨y2, rfl, rfl⟩))
              go_roundg (p.length - (k + 1))
              case measure => have := HG.out; omega
              case rel => exact ⟨k + 1, _, true, by go_num, by omega, rfl, rfl, rfl, (H.out.1.alloc H.out.1.size _).trans (y3.is.mono (by simp; omega)), by rw [HL.out]; omega, by rw [HQ.out]; simp⟩
            · have hlt3 : decide (s.speed < r) = false := by simpa using hlt2
              go_wp2_with (first
                | (go_at_call 36; refine (to_after (touches_any f t s _)).mono ?_; rintro e w' ⟨y1, rfl, rfl⟩)
                | (go_at_call 37; (with_reducible refine (in_after y1 (vslow_any s _)).mono ?_); rintro e w' ⟨y2, rfl, rfl⟩))
              go_roundg (p.length - (k + 1))
              case measure => have := HG.out; omega
              case rel => exact ⟨k + 1, _, true, by go_num, by omega, rfl, rfl, rfl, (H.out.1.alloc H.out.1.size _).trans (y2.is.mono (by simp; omega)), by rw [HL.out]; omega, by rw [HQ.out]; simp⟩
        · have ht' : touchB f t s = false := by simpa using ht
          have HQ : Hid ((p.take (k + 1)).filter (touchB f t) = (p.take k).filter (touchB f t)) := by show _ = _; rw [HT.out, if_neg ht]; simp
          clear hs HT ht
          go_wp2_with (go_at_call 36; refine (to_after (touches_any f t s _)).mono ?_; rintro e w' ⟨y1, rfl, rfl⟩)
          go_roundg (p.length - (k + 1))
          case measure => have := HG.out; omega
          case rel => exact ⟨k + 1, _, fb, by go_num, by omega, rfl, rfl, rfl, (H.out.1.alloc H.out.1.size _).trans (y1.is.mono (by simp; omega)), by rw [HQ.out]; exact H.out.2.1, by rw [HQ.out]; exact H.out.2.2⟩
      · have HL : Hid (r = leastL ((p.filter (touchB f t)).map Sgm.speed)) := by
          have := H.out.2.1
          rwa [List.take_of_length_le (by omega)] at this
        go_wp2
        go_ret
        exact ⟨ret_int (by rw [HE.out, HL.out]), H.out.1⟩
  · have hv' : validB p = false := by simpa using hv
    have HE : Hid (slowV p f t = 0) := by show _ = _; rw [slowV, touL, if_neg hv]; rfl
    clear hv
    go_enter Tryd.func35, Tryd.ntmps35
    go_wp2_with (go_at_call 10; refine (to_after (valid_any A p cap _ HM.out HR.out)).mono ?_; rintro e w' ⟨y, rfl, rfl⟩)
    go_ret
    exact ⟨ret_int HE.out.symm, y.is⟩
theorem slowest_any (A : Option Addr) (p : List Sgm) (cap : Nat) (f t : Int) (w : World) (hm : p.length ≤ maxLen) (hr : Rd w A 4 Sgc p) :
    Calls Tryd.prog 17 #[.slice A p.length cap, .int .i64 f, .int .i64 t] w fun e w' => e = .returned (.int .i64 (slowV p f t)) ∧ Below w.heap.size w w' := by
  have HM := Lib.hid hm
  have HR := Lib.hid hr
  clear hm hr
  go_enter Tryd.func17, Tryd.ntmps17
  go_wp2_with (go_at_call 35; refine (to_after (lslow_any A p cap f t _ HM.out HR.out)).mono ?_; rintro e w' ⟨y, rfl, rfl⟩)
  go_ret
  exact ⟨rfl, y.is⟩
set_option maxHeartbeats 8000000 in
theorem lsteep_any (A : Option Addr) (p : List Sgm) (cap : Nat) (f t : Int) (w : World) (hm : p.length ≤ maxLen) (hr : Rd w A 4 Sgc p) :
    Calls Tryd.prog 35 #[.slice A p.length cap, .func (.func 36) #[.agg #[.int .i64 f, .int .i64 t]] #[], .func (.func 38) #[] #[]] w fun e w' => e = .returned (.int .i64 (steepV p f t)) ∧ Below w.heap.size w w' := by
  have HM := Lib.hid hm
  unfold maxLen at hm
  have HR := Lib.hid hr
  clear hr
  by_cases hv : validB p = true
  · have HE : Hid (steepV p f t = leastL ((p.filter (touchB f t)).map Sgm.grade)) := by show _ = _; rw [steepV, touL, if_pos hv]
    go_enter Tryd.func35, Tryd.ntmps35
    go_wp2_with fail
    refine (to_after (valid_any A p cap _ HM.out HR.out)).mono ?_
    rintro e w' ⟨y, rfl, rfl⟩
    go_wp2
    go_loopg [7, 8, 16] p.length (fun g res fnd i wr => ∃ (k : Nat) (r : Int) (fb : Bool), i = .int .i64 k ∧ k ≤ p.length ∧ g = p.length - k ∧ res = .int .i64 r ∧ fnd = .bool fb ∧ Hid (Below w.heap.size w wr ∧ r = leastL (((p.take k).filter (touchB f t)).map Sgm.grade) ∧ (fb = false ↔ (p.take k).filter (touchB f t) = [])))
    case atStart => exact ⟨0, 0, false, rfl, by omega, rfl, rfl, rfl, y.is, rfl, by simp⟩
    case round =>
      obtain ⟨k, r, fb, rfl, hk, hg, rfl, rfl, H⟩ := hrel
      have HG := Lib.hid hg
      clear hg
      by_cases hlt : k < p.length
      · obtain ⟨b, off, s, rfl, hs, hbs, c0, c1, c2, c3⟩ := rd_seg HR.out H.out.1 hlt
        have HT := Lib.hid (filter_take (g := touchB f t) hs)
        have hsz := H.out.1.size
        by_cases ht : touchB f t s = true
        · have HQ : Hid ((p.take (k + 1)).filter (touchB f t) = (p.take k).filter (touchB f t) ++ [s]) := by show _ = _; rw [HT.out, if_pos ht]
          clear hs HT
          cases fb
          · have HL : Hid (s.grade = leastL (((p.take (k + 1)).filter (touchB f t)).map Sgm.grade)) := by
              show _ = _
              rw [HQ.out, List.map_append, (H.out.2.2.1 rfl)]; rfl
            go_wp2_with (first
              | (go_at_call 36; refine (to_after (touches_any f t s _)).mono ?_; rintro e w' ⟨y1, rfl, rfl⟩)
              | (go_at_call 38; refine (in_after y1 (vsteep_any s _)).mono ?_; rintro e w' ⟨y2, rfl, rfl⟩))
            go_roundg (p.length - (k + 1))
            case measure => have := HG.out; omega
            case rel => exact ⟨k + 1, _, true, by go_num, by omega, rfl, rfl, rfl, (H.out.1.alloc H.out.1.size _).trans (y2.is.mono (by simp; omega)), HL.out, by rw [HQ.out]; simp⟩
          · have hne : (p.take k).filter (touchB f t) ≠ [] := fun h => by have := H.out.2.2.2 h; cases this
            have HL : Hid (leastL (((p.take (k + 1)).filter (touchB f t)).map Sgm.grade) = min r s.grade) := by
              show _ = _
              rw [HQ.out, List.map_append, H.out.2.1, List.map_cons, List.map_nil, leastL_snoc, if_neg (by simpa using hne)]
            have HNE := Lib.hid hne
            clear hne
            by_cases hlt2 : s.grade < r
            · go_wp2_with (first
                | (go_at_call 36; refine (to_after (touches_any f t s _)).mono ?_; rintro e w' ⟨y1, rfl, rfl⟩)
                | (go_at_call 38; (with_reducible refine (in_after y2 (vsteep_any s _)).mono ?_); rintro e w' ⟨y3, rfl, rfl⟩)
                | (go_at_call 38; (with_reducible refine (in_after y1 (vsteep_any s _)).mono ?_); rintro e w' ⟨y2, rfl, rfl⟩))
              go_roundg (p.length - (k + 1))
              case measure => have := HG.out; omega
              case rel => exact ⟨k + 1, _, true, by go_num, by omega, rfl, rfl, rfl, (H.out.1.alloc H.out.1.size _).trans (y3.is.mono (by simp; omega)), by rw [HL.out]; omega, by rw [HQ.out]; simp⟩
            · have hlt3 : decide (s.grade < r) = false := by simpa using hlt2
              go_wp2_with (first
                | (go_at_call 36; refine (to_after (touches_any f t s _)).mono ?_; rintro e w' ⟨y1, rfl, rfl⟩)
                | (go_at_call 38; (with_reducible refine (in_after y1 (vsteep_any s _)).mono ?_); rintro e w' ⟨y2, rfl, rfl⟩))
              go_roundg (p.length - (k + 1))
              case measure => have := HG.out; omega
              case rel => exact ⟨k + 1, _, true, by go_num, by omega, rfl, rfl, rfl, (H.out.1.alloc H.out.1.size _).trans (y2.is.mono (by simp; omega)), by rw [HL.out]; omega, by rw [HQ.out]; simp⟩
        · have ht' : touchB f t s = false := by simpa using ht
          have HQ : Hid ((p.take (k + 1)).filter (touchB f t) = (p.take k).filter (touchB f t)) := by show _ = _; rw [HT.out, if_neg ht]; simp
          clear hs HT ht
          go_wp2_with (go_at_call 36; refine (to_after (touches_any f t s _)).mono ?_; rintro e w' ⟨y1, rfl, rfl⟩)
          go_roundg (p.length - (k + 1))
          case measure => have := HG.out; omega
          case rel => exact ⟨k + 1, _, fb, by go_num, by omega, rfl, rfl, rfl, (H.out.1.alloc H.out.1.size _).trans (y1.is.mono (by simp; omega)), by rw [HQ.out]; exact H.out.2.1, by rw [HQ.out]; exact H.out.2.2⟩
      · have HL : Hid (r = leastL ((p.filter (touchB f t)).map Sgm.grade)) := by
          have := H.out.2.1
          rwa [List.take_of_length_le (by omega)] at this
        go_wp2
        go_ret
        exact ⟨ret_int (by rw [HE.out, HL.out]), H.out.1⟩
  · have hv' : validB p = false := by simpa using hv
    have HE : Hid (steepV p f t = 0) := by show _ = _; rw [steepV, touL, if_neg hv]; rfl
    clear hv
    go_enter Tryd.func35, Tryd.ntmps35
    go_wp2_with (go_at_call 10; refine (to_after (valid_any A p cap _ HM.out HR.out)).mono ?_; rintro e w' ⟨y, rfl, rfl⟩)
    go_ret
    exact ⟨ret_int HE.out.symm, y.is⟩
theorem steepest_any (A : Option Addr) (p : List Sgm) (cap : Nat) (f t : Int) (w : World) (hm : p.length ≤ maxLen) (hr : Rd w A 4 Sgc p) :
    Calls Tryd.prog 18 #[.slice A p.length cap, .int .i64 f, .int .i64 t] w fun e w' => e = .returned (.int .i64 (steepV p f t)) ∧ Below w.heap.size w w' := by
  have HM := Lib.hid hm
  have HR := Lib.hid hr
  clear hm hr
  go_enter Tryd.func18, Tryd.ntmps18
  go_wp2_with (go_at_call 35; refine (to_after (lsteep_any A p cap f t _ HM.out HR.out)).mono ?_; rintro e w' ⟨y, rfl, rfl⟩)
  go_ret
  exact ⟨rfl, y.is⟩
end Go.Proofs.YtoodehilgogomaaDoor
