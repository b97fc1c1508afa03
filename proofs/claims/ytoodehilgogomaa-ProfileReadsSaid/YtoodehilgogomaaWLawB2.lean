/- Walks of chapter 10's laws: ProfileReads. -/
import Derived.Test.YtoodehilgogomaaWLawB
set_option linter.unusedVariables false
set_option linter.unusedSimpArgs false
namespace Go.Proofs.Ytoodehilgogomaa
open Go.ChangeShapes Go.WideShapes Go.ChangeAt Go.RowKit
open Sg

set_option maxHeartbeats 8000000 in
theorem reads_walk (A : Option Addr) (p : List Sgm) (cap : Nat) (f t : Int) (w : World) (hm : p.length ≤ maxLen) (hr : Rd w A 4 Sgc p) :
    Calls Try.prog 3 #[.slice A p.length cap, .int .i64 f, .int .i64 t] w fun e w' => e = .returned (.bool true) ∧ Below w.heap.size w w' := by
  have HM := Lib.hid hm
  have HR := Lib.hid hr
  unfold maxLen at hm
  clear hr
  by_cases hl : p.length ≤ 300
  · have hl' : decide (300 < p.length) = false := by simpa using hl
    have v5 : ∀ q : List Sgm, sameL q q = true := fun q => sameL_true.2 rfl
    have HV5 := Lib.hid v5
    clear v5
    go_enter Try.func3, Try.ntmps3
    go_wp2_with fail
    refine (to_after (at_any A p cap f w HM.out HR.out)).mono ?_
    rintro e w' ⟨y1, rfl, rfl⟩
    obtain ⟨sg, hsg⟩ : ∃ sg, sg = atS p f := ⟨_, rfl⟩
    obtain ⟨sb, hsb⟩ : ∃ sb, sb = atB p f := ⟨_, rfl⟩
    rw [← hsg, ← hsb]
    have HSG := Lib.hid hsg
    have HSB := Lib.hid hsb
    clear hsg hsb
    have HR1 := Lib.hid (HR.out.keep y1.is)
    go_wp2_with fail
    refine (to_after (rat_any A p cap f _ HM.out (HR1.out.keep ((Below.refl _ _).alloc (Nat.le_refl _) _)))).mono ?_
    rintro e w' ⟨y2, rfl, rfl⟩
    rw [← HSG.out, ← HSB.out]
    have HR2 := Lib.hid ((HR1.out.keep ((Below.refl _ _).alloc (Nat.le_refl _) (.cells #[.int .i64 sg.from_, .int .i64 sg.to_, .int .i64 sg.grade, .int .i64 sg.speed] 25))).keep y2.is)
    have z1 : y1.val.heap.size < y2.val.heap.size := by have := y2.is.size; simp at this; omega
    go_wp2_with fail
    refine (to_after (valid_any A p cap _ HM.out (HR2.out.keep ((Below.refl _ _).alloc (Nat.le_refl _) _)))).mono ?_
    rintro e w' ⟨y3, rfl, rfl⟩
    have HR3 := Lib.hid ((HR2.out.keep ((Below.refl _ _).alloc (Nat.le_refl _) (.cells #[.int .i64 sg.from_, .int .i64 sg.to_, .int .i64 sg.grade, .int .i64 sg.speed] 25))).keep y3.is)
    have hb1 := y1.is
    have hb2 := hb1.trans ((((Below.refl _ _).alloc (Nat.le_refl _) (.cells #[.int .i64 sg.from_, .int .i64 sg.to_, .int .i64 sg.grade, .int .i64 sg.speed] 25)).trans (y2.is.mono (by simp))).mono hb1.size)
    have HRB := Lib.hid (HR2.out.keep ((Below.refl _ _).alloc (Nat.le_refl _) (.cells #[.int .i64 sg.from_, .int .i64 sg.to_, .int .i64 sg.grade, .int .i64 sg.speed] 25)))
    have HB0 := Lib.hid (hb2.alloc hb2.size (.cells #[.int .i64 sg.from_, .int .i64 sg.to_, .int .i64 sg.grade, .int .i64 sg.speed] 25))
    have HB3 := Lib.hid (hb2.trans ((((Below.refl _ _).alloc (Nat.le_refl _) (.cells #[.int .i64 sg.from_, .int .i64 sg.to_, .int .i64 sg.grade, .int .i64 sg.speed] 25)).trans (y3.is.mono (by simp))).mono hb2.size))
    clear hb1 hb2
    have z2 : y2.val.heap.size < y3.val.heap.size := by have := y3.is.size; simp at this; omega
    have z3 : y1.val.heap.size < y3.val.heap.size := by omega
    obtain ⟨vb, hvb⟩ : ∃ vb, vb = validB p := ⟨_, rfl⟩
    rw [← hvb]
    have HVB := Lib.hid hvb
    clear hvb
    go_wp2_with fail
    refine (in_after y3 (rvalid_any A p cap _ HM.out HR3.out)).mono ?_
    rintro e w' ⟨y4, rfl, rfl⟩
    rw [← HVB.out]
    go_wp2_with fail
    refine (in_after y4 (slowest_any A p cap f t _ HM.out (HRB.out.keep y4.is))).mono ?_
    rintro e w' ⟨y5, rfl, rfl⟩
    go_wp2_with fail
    refine (in_after y5 (rslow_any A p cap f t _ (by omega) (HRB.out.keep y5.is))).mono ?_
    rintro e w' ⟨y6, rfl, rfl⟩
    go_wp2_with fail
    refine (in_after y6 (steepest_any A p cap f t _ HM.out (HRB.out.keep y6.is))).mono ?_
    rintro e w' ⟨y7, rfl, rfl⟩
    go_wp2_with fail
    refine (in_after y7 (rsteep_any A p cap f t _ (by omega) (HRB.out.keep y7.is))).mono ?_
    rintro e w' ⟨y8, rfl, rfl⟩
    go_wp2_with fail
    refine (cut_any A p cap f t _ (by omega) (HRB.out.keep y8.is)).mono ?_
    rintro e w9 ⟨v, rfl, ho, hb9⟩
    obtain ⟨A9, cap9, rfl, hr9, hl9⟩ := ho.rd Sgc_len
    have HR9 := Lib.hid hr9
    have HB9 := Lib.hid hb9
    have HL9 := Lib.hid hl9
    clear ho hr9 hb9 hl9
    go_wp2_with fail
    refine (rcut_any A p cap f t _ (by omega) ((HRB.out.keep y8.is).keep HB9.out)).mono ?_
    rintro e w10 ⟨v, rfl, ho, hb10⟩
    obtain ⟨A10, cap10, rfl, hr10, hl10⟩ := ho.rd Sgc_len
    have HR10 := Lib.hid hr10
    have HB10 := Lib.hid hb10
    have HL10 := Lib.hid hl10
    clear ho hr10 hb10 hl10
    go_wp2_with fail
    refine (to_after (same_any A9 A10 (cutL p f t) (cutL p f t) cap9 cap10 _ HL9.out HL10.out (HR9.out.keep HB10.out) HR10.out)).mono ?_
    rintro e w' ⟨y11, rfl, rfl⟩
    rw [HV5.out]
    go_wp2_with fail
    refine (in_after y11 (alive_any _)).mono ?_
    rintro e w' ⟨y12, rfl, rfl⟩
    go_wp2_with fail
    go_ret
    have hb8 := HB0.out.trans (y8.is.mono (by have := HB0.out.size; omega))
    have hb9 := hb8.trans (HB9.out.mono hb8.size)
    have hb10 := hb9.trans (HB10.out.mono hb9.size)
    exact ⟨rfl, hb10.trans (y12.is.mono hb10.size)⟩
  · have hl' : decide (300 < p.length) = true := by simpa using hl
    go_enter Try.func3, Try.ntmps3
    go_wp2_with (go_at_call 8; refine (to_after (alive_any _)).mono ?_; rintro e w' ⟨y, rfl, rfl⟩)
    go_ret
    exact ⟨rfl, y.is⟩
end Go.Proofs.Ytoodehilgogomaa
