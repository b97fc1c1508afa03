/- Walks of chapter 10's laws: the examples. -/
import Derived.Test.YtoodehilgogomaaDoorWProfC
import Derived.Test.YtoodehilgogomaaDoorWProfD
import Derived.Test.YtoodehilgogomaaDoorWProfG
import Derived.Test.YtoodehilgogomaaDoorMono
set_option linter.unusedVariables false
set_option linter.unusedSimpArgs false
namespace Go.Proofs.YtoodehilgogomaaDoor
open Go.ChangeShapes Go.WideShapes Go.ChangeAt Go.RowKit
open Sg

def ex0 : Sgm := ⟨0, 10, 5, 300⟩
def ex1 : Sgm := ⟨10, 30, -5, 200⟩
def exL : List Sgm := [ex0, ex1]
def cu0 : Sgm := ⟨5, 10, 5, 300⟩
def cu1 : Sgm := ⟨10, 12, -5, 200⟩
def cuL : List Sgm := [cu0, cu1]
theorem ex_valid : validB exL = true := validB_true.2 ⟨by decide, fun i hi => by
  have : i = 0 ∨ i = 1 := by simp [exL] at hi; omega
  rcases this with rfl | rfl
  · exact ⟨by simp [exL, ex0, SegOk], .inl rfl⟩
  · exact ⟨by simp [exL, ex1, SegOk], .inr rfl⟩⟩
theorem ex_at : atO exL 10 = some ex1 := by rw [atO, if_pos ex_valid]; rfl
theorem ex_slow : slowV exL 0 9 = 300 := by rw [slowV, touL, if_pos ex_valid]; decide
theorem ex_slow2 : slowV exL 0 10 = 200 := by rw [slowV, touL, if_pos ex_valid]; decide
theorem ex_steep : steepV exL 10 10 = -5 := by rw [steepV, touL, if_pos ex_valid]; decide
theorem ex_cut : cutL exL 5 12 = cuL := by rw [cutL, if_pos ex_valid]; rfl
/-- A list of two segments, written out. -/
theorem rd_two {w : World} {b : Nat} {s t : Sgm} (h : CellsAt w b (Sgc s ++ Sgc t)) : Rd w (some ⟨b, 0, none⟩) 4 Sgc [s, t] := fun _ => by
  refine ⟨b, 0, rfl, h.1, fun i x hi j v hj => ?_⟩
  have hj' : j < 4 := by have := (List.getElem?_eq_some_iff.1 hj).1; rwa [Sgc_len] at this
  have hi2 : i = 0 ∨ i = 1 := by have := (List.getElem?_eq_some_iff.1 hi).1; simp at this; omega
  rcases hi2 with rfl | rfl
  · simp at hi; subst hi
    have := h.2 j v (by rw [List.getElem?_append_left (by rw [Sgc_len]; omega)]; exact hj)
    simpa using this
  · simp at hi; subst hi
    have := h.2 (4 + j) v (by rw [List.getElem?_append_right (by rw [Sgc_len]; omega), Sgc_len]; simpa using hj)
    simpa using this
theorem example_any (w : World) : Calls Tryd.prog 15 #[] w fun e w' => ∃ b, e = .returned (.slice (some ⟨b, 0, none⟩) 2 2) ∧ CellsAt w' b (Sgc ex0 ++ Sgc ex1) ∧ Below w.heap.size w w' := by
  go_enter Tryd.func15, Tryd.ntmps15
  go_wp2
  go_ret
  exact ⟨_, rfl, CellsAt.new rfl, (Below.refl _ _).alloc (Nat.le_refl _) _⟩
set_option maxHeartbeats 8000000 in
theorem alive_any (w : World) : Calls Tryd.prog 6 #[] w fun e w' => e = .returned (.bool true) ∧ Below w.heap.size w w' := by
  have hmx : exL.length ≤ maxLen := by unfold maxLen; decide
  have HMX := Lib.hid hmx
  clear hmx
  go_enter Tryd.func6, Tryd.ntmps6
  go_wp2_with fail
  refine (example_any _).mono ?_
  rintro e w1 ⟨b, rfl, hc1, hb1⟩
  have HR1 := Lib.hid (rd_two hc1)
  have HC1 := Lib.hid hc1
  have HB1 := Lib.hid hb1
  clear hb1 hc1
  go_wp2_with fail
  refine (to_after (at_any (some ⟨b, 0, none⟩) exL 2 10 w1 HMX.out HR1.out)).mono ?_
  rintro e w' ⟨y1, rfl, rfl⟩
  rw [atS, atB, ex_at]
  have e0 := (HC1.out.keep y1.is).2 4 _ rfl
  have e1 := (HC1.out.keep y1.is).2 5 _ rfl
  have e2 := (HC1.out.keep y1.is).2 6 _ rfl
  have e3 := (HC1.out.keep y1.is).2 7 _ rfl
  have hbs := (HC1.out.keep y1.is).1
  have hbs2 : b < y1.val.heap.size + 1 := by omega
  have HRd : Hid (Rd (y1.val.alloc (.cells #[.int .i64 ex1.from_, .int .i64 ex1.to_, .int .i64 ex1.grade, .int .i64 ex1.speed] 41)) (some ⟨b, 0, none⟩) 4 Sgc exL) :=
    (HR1.out.keep y1.is).keep ((Below.refl _ _).alloc (Nat.le_refl _) _)
  have v1 := ex_valid
  have v2 := ex_slow
  have v3 := ex_slow2
  have v4 := ex_steep
  go_wp2_with fail
  refine wp_region_mono [0, 1, 2, 3, 4, 5, 6, 7, 8, 9, 10, 11, 12, 13, 14, 15, 16, 17, 18, 19, 20, 21, 22, 23, 24, 25, 26, 27, 28, 30, 31] 5 (by kernel_rfl) (by kernel_rfl) (fun _ _ d _ _ h => by cases d <;> exact h) (by kernel_rfl) (by kernel_rfl) ?_
  repeat (refine wpE_step rfl (fun K hK => ?_); go_simp; (first
    | (refine hK _ ?_; clear hK K)
    | (apply Exists.intro
       refine ⟨fun x => ?_, hK _ ?_⟩
       (first
        | (go_at_call 10; exact valid_any _ exL _ _ HMX.out (HRd.out.keep x.is))
        | (go_at_call 17; exact slowest_any _ exL 2 _ _ _ HMX.out (HRd.out.keep x.is))
        | (go_at_call 18; exact steepest_any _ exL 2 _ _ _ HMX.out (HRd.out.keep x.is)))
       clear hK K)))
  refine wpE_nil ?_
  intro x
  have v5 : sameL cuL cuL = true := sameL_true.2 rfl
  have HB2 := Lib.hid (((HB1.out.trans (y1.is.mono HB1.out.size)).alloc (HB1.out.trans (y1.is.mono HB1.out.size)).size _).trans (x.is.mono (by have := (HB1.out.trans (y1.is.mono HB1.out.size)).size; simp; omega)))
  have HRx := Lib.hid (HRd.out.keep x.is)
  refine wpAnyR_ready (rs := [29, 32]) (by kernel_rfl) (by simp) (AllR.cons rfl (fun K hK => ?_) (AllR.cons rfl (fun K hK => ?_) AllR.nil))
  · go_simp
    go_wp2_with (go_at_call 19; refine (cut_any _ exL 2 5 12 _ (by decide) HRx.out).mono ?_; rintro e w5 ⟨v, rfl, ho, hb5⟩; rw [ex_cut] at ho; obtain ⟨A5, cap5, rfl, hr5, hl5⟩ := ho.rd Sgc_len; have HR5 := Lib.hid hr5; have HB5 := Lib.hid hb5; have HL5 := Lib.hid hl5; clear ho hr5 hb5 hl5)
    refine hK _ _ HB5.out (fun z => ?_)
    clear hK K
    refine wpAnyR_ready (rs := [32]) (by kernel_rfl) (by simp) (AllR.cons rfl (fun K hK => ?_) AllR.nil)
    go_simp
    refine hK _ _ ((Below.refl _ _).alloc (Nat.le_refl _) _) (fun z2 => ?_)
    clear hK K
    have HR6 := Lib.hid (((HR5.out.keep z.is).keep ((Below.refl _ _).alloc (Nat.le_refl _) (.cells (#[.int .i64 5, .int .i64 10, .int .i64 5, .int .i64 300, .int .i64 10, .int .i64 12, .int .i64 (-5), .int .i64 200]) 41))).keep z2.is)
    have HR7 : Hid (Rd z2.val (some ⟨z.val.heap.size, 0, none⟩) 4 Sgc cuL) := (rd_two (CellsAt.new rfl)).keep z2.is
    have hbz := (HB2.out.trans (HB5.out.mono HB2.out.size))
    have hbz2 := hbz.trans (z.is.mono hbz.size)
    have HB7 := Lib.hid (hbz2.trans ((((Below.refl _ _).alloc (Nat.le_refl _) _).trans (z2.is.mono (by simp))).mono hbz2.size))
    clear hbz hbz2
    (refine wpAnyR_more [33, 34, 35] (fuel := 0) (by kernel_rfl) (fun _ _ d _ _ h => by cases d <;> exact h) (by kernel_rfl) rfl ?_)
    repeat (refine wpE_step rfl (fun K hK => ?_); go_simp; (first
      | (refine hK _ ?_; clear hK K)
      | (apply Exists.intro
         refine ⟨fun x => ?_, hK _ ?_⟩
         (go_at_call 8; exact same_any A5 _ cuL cuL cap5 2 _ HL5.out (by unfold maxLen; decide) (HR6.out.keep x.is) (HR7.out.keep x.is))
         clear hK K)))
    refine wpE_nil ?_
    intro z9
    refine wpAnyR_done (by kernel_rfl) ?_ _
    go_wp2
    go_ret
    exact ⟨rfl, HB7.out.trans (z9.is.mono HB7.out.size)⟩
  · go_simp
    refine hK _ _ ((Below.refl _ _).alloc (Nat.le_refl _) _) (fun z => ?_)
    clear hK K
    have HRz := Lib.hid ((HRx.out.keep ((Below.refl _ _).alloc (Nat.le_refl _) (.cells (#[.int .i64 5, .int .i64 10, .int .i64 5, .int .i64 300, .int .i64 10, .int .i64 12, .int .i64 (-5), .int .i64 200]) 41))).keep z.is)
    refine wpAnyR_ready (rs := [29]) (by kernel_rfl) (by simp) (AllR.cons rfl (fun K hK => ?_) AllR.nil)
    go_simp
    go_wp2_with (go_at_call 19; refine (cut_any _ exL 2 5 12 _ (by decide) HRz.out).mono ?_; rintro e w5 ⟨v, rfl, ho, hb5⟩; rw [ex_cut] at ho; obtain ⟨A5, cap5, rfl, hr5, hl5⟩ := ho.rd Sgc_len; have HR5 := Lib.hid hr5; have HB5 := Lib.hid hb5; have HL5 := Lib.hid hl5; clear ho hr5 hb5 hl5)
    refine hK _ _ HB5.out (fun z2 => ?_)
    clear hK K
    have HR6 := Lib.hid (HR5.out.keep z2.is)
    have HR7 : Hid (Rd z2.val (some ⟨x.val.heap.size, 0, none⟩) 4 Sgc cuL) := (((rd_two (CellsAt.new rfl)).keep z.is).keep HB5.out).keep z2.is
    have hbz := HB2.out.trans ((((Below.refl _ _).alloc (Nat.le_refl _) _).trans (z.is.mono (by simp))).mono HB2.out.size)
    have hbz2 := hbz.trans (HB5.out.mono hbz.size)
    have HB7 := Lib.hid (hbz2.trans (z2.is.mono hbz2.size))
    clear hbz hbz2
    (refine wpAnyR_more [33, 34, 35] (fuel := 0) (by kernel_rfl) (fun _ _ d _ _ h => by cases d <;> exact h) (by kernel_rfl) rfl ?_)
    repeat (refine wpE_step rfl (fun K hK => ?_); go_simp; (first
      | (refine hK _ ?_; clear hK K)
      | (apply Exists.intro
         refine ⟨fun x => ?_, hK _ ?_⟩
         (go_at_call 8; exact same_any A5 _ cuL cuL cap5 2 _ HL5.out (by unfold maxLen; decide) (HR6.out.keep x.is) (HR7.out.keep x.is))
         clear hK K)))
    refine wpE_nil ?_
    intro z9
    refine wpAnyR_done (by kernel_rfl) ?_ _
    go_wp2
    go_ret
    exact ⟨rfl, HB7.out.trans (z9.is.mono HB7.out.size)⟩
end Go.Proofs.YtoodehilgogomaaDoor
