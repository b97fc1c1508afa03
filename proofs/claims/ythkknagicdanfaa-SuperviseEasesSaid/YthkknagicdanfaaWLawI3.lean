/- Walks of chapter 34's laws: Eases. -/
import Derived.Test.YthkknagicdanfaaWLawI2
set_option linter.unusedVariables false
set_option linter.unusedSimpArgs false
namespace Go.Proofs.Ythkknagicdanfaa
open Go.ChangeShapes Go.WideShapes Go.ChangeAt Go.RowKit
open Sg

set_option maxHeartbeats 16000000 in
set_option maxRecDepth 100000 in
theorem eases_walk (T : Tr) (E : Es) (sq en : Int) (A LA : Option Addr) (p : List Sgm) (cap ln lc : Nat) (w : World) (hs : T.name.size ≤ maxLen) (hr : Rd w A 4 Sgc p) :
    Calls Try.prog 5 #[.agg #[.int .i64 T.id, .string T.name, .int .i64 T.len, .int .i64 T.speed, .int .i64 T.accel, .int .i64 T.service, .int .i64 T.emergency, .int .i64 T.delay, .int .i64 T.cons, .int .i64 T.rate], .agg #[.int .i64 sq, .int .i64 en, .slice A p.length cap, .slice LA ln lc], .agg #[.int .i64 E.min, .int .i64 E.max, .int .i64 E.speed]] w fun e w' => e = .returned (.bool true) ∧ Below w.heap.size w w' := by
  have HR := Lib.hid hr
  clear hr
  obtain ⟨w1, hw⟩ : ∃ w1, w1 = ((w.alloc (.cells #[.int .i64 T.id, .string T.name, .int .i64 T.len, .int .i64 T.speed, .int .i64 T.accel, .int .i64 T.service, .int .i64 T.emergency, .int .i64 T.delay, .int .i64 T.cons, .int .i64 T.rate] 23)).alloc (.cells #[.int .i64 sq, .int .i64 en, .slice A p.length cap, .slice LA ln lc] 27)).alloc (.cells #[.int .i64 E.min, .int .i64 E.max, .int .i64 E.speed] 29) := ⟨_, rfl⟩
  have HE0 : Hid (Ext w w1) := by rw [hw]; exact eal (eal (eal (Ext.refl w) (.cells #[.int .i64 T.id, .string T.name, .int .i64 T.len, .int .i64 T.speed, .int .i64 T.accel, .int .i64 T.service, .int .i64 T.emergency, .int .i64 T.delay, .int .i64 T.cons, .int .i64 T.rate] 23)) (.cells #[.int .i64 sq, .int .i64 en, .slice A p.length cap, .slice LA ln lc] 27)) (.cells #[.int .i64 E.min, .int .i64 E.max, .int .i64 E.speed] 29)
  have HCT : Hid (CellsAt w1 w.heap.size [.int .i64 T.id, .string T.name, .int .i64 T.len, .int .i64 T.speed, .int .i64 T.accel, .int .i64 T.service, .int .i64 T.emergency, .int .i64 T.delay, .int .i64 T.cons, .int .i64 T.rate]) := by rw [hw]; exact ((CellsAt.new (w := w) (cs := #[.int .i64 T.id, .string T.name, .int .i64 T.len, .int .i64 T.speed, .int .i64 T.accel, .int .i64 T.service, .int .i64 T.emergency, .int .i64 T.delay, .int .i64 T.cons, .int .i64 T.rate]) (t := 23) rfl).alloc _).alloc _
  have HCA : Hid (CellsAt w1 (w.heap.size + 1) [.int .i64 sq, .int .i64 en, .slice A p.length cap, .slice LA ln lc]) := by rw [hw]; exact (CellsAt.new (w := w.alloc (.cells #[.int .i64 T.id, .string T.name, .int .i64 T.len, .int .i64 T.speed, .int .i64 T.accel, .int .i64 T.service, .int .i64 T.emergency, .int .i64 T.delay, .int .i64 T.cons, .int .i64 T.rate] 23)) (cs := #[.int .i64 sq, .int .i64 en, .slice A p.length cap, .slice LA ln lc]) (t := 27) (by simp)).alloc _
  have HCE : Hid (CellsAt w1 (w.heap.size + 1 + 1) [.int .i64 E.min, .int .i64 E.max, .int .i64 E.speed]) := by rw [hw]; exact CellsAt.new (by simp)
  have HFC : Hid (∀ x, Ext w1 x → Calls Try.prog 8 #[.agg #[.int .i64 T.id, .string T.name, .int .i64 T.len, .int .i64 T.speed, .int .i64 T.accel, .int .i64 T.service, .int .i64 T.emergency, .int .i64 T.delay, .int .i64 T.cons, .int .i64 T.rate], .agg #[.int .i64 sq, .int .i64 en, .slice A p.length cap, .slice LA ln lc], .agg #[.int .i64 E.min, .int .i64 E.max, .int .i64 E.speed]] x fun e w' => e = .returned (.bool (fitsB T p E en)) ∧ Below x.heap.size x w') := fun x hx => fit_any T E sq en A LA p cap ln lc x hs
  cases hf : fitsB T p E en
  · rw [hf] at HFC
    clear hf
    go_enter Try.func5, Try.ntmps5
    go_upto_region 1 with (fail)
    rw [← hw]
    clear hw
    have t0 := HCT.out.2 0 _ rfl
    have t1 := HCT.out.2 1 _ rfl
    have t2 := HCT.out.2 2 _ rfl
    have t3 := HCT.out.2 3 _ rfl
    have t4 := HCT.out.2 4 _ rfl
    have t5 := HCT.out.2 5 _ rfl
    have t6 := HCT.out.2 6 _ rfl
    have t7 := HCT.out.2 7 _ rfl
    have t8 := HCT.out.2 8 _ rfl
    have t9 := HCT.out.2 9 _ rfl
    have zt := HCT.out.1
    have a0 := HCA.out.2 0 _ rfl
    have a1 := HCA.out.2 1 _ rfl
    have a2 := HCA.out.2 2 _ rfl
    have a3 := HCA.out.2 3 _ rfl
    have za := HCA.out.1
    have e0 := HCE.out.2 0 _ rfl
    have e1 := HCE.out.2 1 _ rfl
    have e2 := HCE.out.2 2 _ rfl
    have ze := HCE.out.1
    go_wp2_with (first
      | (go_at_call 8; refine (to_after (HFC.out _ (Ext.refl _))).mono ?_; rintro e w' ⟨y, rfl, rfl⟩)
      | (go_at_call 13; refine (in_after y (alive_any _)).mono ?_; rintro e w' ⟨z, rfl, rfl⟩))
    go_ret
    exact ⟨rfl, etr HE0.out z.is⟩
  · have HF := Lib.hid (fits_of hf)
    rw [hf] at HFC
    clear hf

    by_cases hmm : E.max < E.min
    · have hmd : decide (E.max < E.min) = true := decide_eq_true hmm
      go_enter Try.func5, Try.ntmps5
      go_upto_region 1 with (fail)
      rw [← hw]
      clear hw
      have t0 := HCT.out.2 0 _ rfl
      have t1 := HCT.out.2 1 _ rfl
      have t2 := HCT.out.2 2 _ rfl
      have t3 := HCT.out.2 3 _ rfl
      have t4 := HCT.out.2 4 _ rfl
      have t5 := HCT.out.2 5 _ rfl
      have t6 := HCT.out.2 6 _ rfl
      have t7 := HCT.out.2 7 _ rfl
      have t8 := HCT.out.2 8 _ rfl
      have t9 := HCT.out.2 9 _ rfl
      have zt := HCT.out.1
      have a0 := HCA.out.2 0 _ rfl
      have a1 := HCA.out.2 1 _ rfl
      have a2 := HCA.out.2 2 _ rfl
      have a3 := HCA.out.2 3 _ rfl
      have za := HCA.out.1
      have e0 := HCE.out.2 0 _ rfl
      have e1 := HCE.out.2 1 _ rfl
      have e2 := HCE.out.2 2 _ rfl
      have ze := HCE.out.1
      go_wp2_with (first
        | (go_at_call 8; refine (to_after (HFC.out _ (Ext.refl _))).mono ?_; rintro e w' ⟨y, rfl, rfl⟩)
        | (go_at_call 13; refine (in_after y (alive_any _)).mono ?_; rintro e w' ⟨z, rfl, rfl⟩))
      go_ret
      exact ⟨rfl, etr HE0.out z.is⟩
    have hmd : decide (E.max < E.min) = false := decide_eq_false hmm
    go_enter Try.func5, Try.ntmps5
    go_upto_region 1 with (fail)
    rw [← hw]
    clear hw
    have t0 := HCT.out.2 0 _ rfl
    have t1 := HCT.out.2 1 _ rfl
    have t2 := HCT.out.2 2 _ rfl
    have t3 := HCT.out.2 3 _ rfl
    have t4 := HCT.out.2 4 _ rfl
    have t5 := HCT.out.2 5 _ rfl
    have t6 := HCT.out.2 6 _ rfl
    have t7 := HCT.out.2 7 _ rfl
    have t8 := HCT.out.2 8 _ rfl
    have t9 := HCT.out.2 9 _ rfl
    have zt := HCT.out.1
    have a0 := HCA.out.2 0 _ rfl
    have a1 := HCA.out.2 1 _ rfl
    have a2 := HCA.out.2 2 _ rfl
    have a3 := HCA.out.2 3 _ rfl
    have za := HCA.out.1
    have e0 := HCE.out.2 0 _ rfl
    have e1 := HCE.out.2 1 _ rfl
    have e2 := HCE.out.2 2 _ rfl
    have ze := HCE.out.1
    go_wp2_with fail
    refine (HFC.out _ (Ext.refl _)).mono ?_
    rintro e w2 ⟨rfl, hb2⟩
    replace HE0 := Lib.hid (etr HE0.out hb2)
    replace HCT := Lib.hid (HCT.out.keep hb2)
    replace HCA := Lib.hid (HCA.out.keep hb2)
    replace HCE := Lib.hid (HCE.out.keep hb2)
    clear hb2
    clear t0 t1 t2 t3 t4 t5 t6 t7 t8 t9 a0 a1 a2 a3 e0 e1 e2 zt za ze
    have t0 := HCT.out.2 0 _ rfl
    have t1 := HCT.out.2 1 _ rfl
    have t2 := HCT.out.2 2 _ rfl
    have t3 := HCT.out.2 3 _ rfl
    have t4 := HCT.out.2 4 _ rfl
    have t5 := HCT.out.2 5 _ rfl
    have t6 := HCT.out.2 6 _ rfl
    have t7 := HCT.out.2 7 _ rfl
    have t8 := HCT.out.2 8 _ rfl
    have t9 := HCT.out.2 9 _ rfl
    have zt := HCT.out.1
    have a0 := HCA.out.2 0 _ rfl
    have a1 := HCA.out.2 1 _ rfl
    have a2 := HCA.out.2 2 _ rfl
    have a3 := HCA.out.2 3 _ rfl
    have za := HCA.out.1
    have e0 := HCE.out.2 0 _ rfl
    have e1 := HCE.out.2 1 _ rfl
    have e2 := HCE.out.2 2 _ rfl
    have ze := HCE.out.1
    obtain ⟨sb, hsb⟩ : ∃ sb, sb = safeB T p E en := ⟨_, rfl⟩
    obtain ⟨ab, hab⟩ : ∃ ab, ab = aheadB T p E en := ⟨_, rfl⟩
    have HS1 : Hid (∀ x, Ext w2 x → Calls Try.prog 9 #[.agg #[.int .i64 T.id, .string T.name, .int .i64 T.len, .int .i64 T.speed, .int .i64 T.accel, .int .i64 T.service, .int .i64 T.emergency, .int .i64 T.delay, .int .i64 T.cons, .int .i64 T.rate], .agg #[.int .i64 sq, .int .i64 en, .slice A p.length cap, .slice LA ln lc], .agg #[.int .i64 E.min, .int .i64 E.max, .int .i64 E.speed]] x fun e w' => e = .returned (.bool sb) ∧ Below x.heap.size x w') := fun x hx => by rw [hsb]; exact supsafe_any T E sq en A LA p cap ln lc x (fits_len HF.out) HF.out.sup (HR.out.keep (etr HE0.out hx))
    have HA1 : Hid (∀ x, Ext w2 x → Calls Try.prog 11 #[.agg #[.int .i64 T.id, .string T.name, .int .i64 T.len, .int .i64 T.speed, .int .i64 T.accel, .int .i64 T.service, .int .i64 T.emergency, .int .i64 T.delay, .int .i64 T.cons, .int .i64 T.rate], .agg #[.int .i64 sq, .int .i64 en, .slice A p.length cap, .slice LA ln lc], .agg #[.int .i64 E.min, .int .i64 E.max, .int .i64 E.speed]] x fun e w' => e = .returned (.bool ab) ∧ Below x.heap.size x w') := fun x hx => by rw [hab]; exact supahead_any T E sq en A LA p cap ln lc x (fits_len HF.out) HF.out.sup (HR.out.keep (etr HE0.out hx))
    go_wp2_with fail
    refine wp_region_after (by kernel_rfl) (by kernel_rfl) ?_
    repeat (first | go_big_quiet_step ((first
      | (go_at_call 9; exact after_call _ (HS1.out _ (After.is _)))
      | (go_at_call 11; exact after_call _ (HA1.out _ (After.is _))))))
    refine wpQuiet_nil ?_
    rintro _ ⟨y, rfl⟩
    have HY := Lib.hid y.is
    obtain ⟨w3, hw3⟩ : ∃ w3, w3 = y.val := ⟨_, rfl⟩
    rw [← hw3] at HY ⊢
    clear hw3 HS1 HA1 HFC
    replace HE0 := Lib.hid (etr HE0.out HY.out)
    replace HCT := Lib.hid (HCT.out.keep HY.out)
    replace HCA := Lib.hid (HCA.out.keep HY.out)
    replace HCE := Lib.hid (HCE.out.keep HY.out)
    clear t0 t1 t2 t3 t4 t5 t6 t7 t8 t9 a0 a1 a2 a3 e0 e1 e2 zt za ze
    have t0 := HCT.out.2 0 _ rfl
    have t1 := HCT.out.2 1 _ rfl
    have t2 := HCT.out.2 2 _ rfl
    have t3 := HCT.out.2 3 _ rfl
    have t4 := HCT.out.2 4 _ rfl
    have t5 := HCT.out.2 5 _ rfl
    have t6 := HCT.out.2 6 _ rfl
    have t7 := HCT.out.2 7 _ rfl
    have t8 := HCT.out.2 8 _ rfl
    have t9 := HCT.out.2 9 _ rfl
    have zt := HCT.out.1
    have a0 := HCA.out.2 0 _ rfl
    have a1 := HCA.out.2 1 _ rfl
    have a2 := HCA.out.2 2 _ rfl
    have a3 := HCA.out.2 3 _ rfl
    have za := HCA.out.1
    have e0 := HCE.out.2 0 _ rfl
    have e1 := HCE.out.2 1 _ rfl
    have e2 := HCE.out.2 2 _ rfl
    have ze := HCE.out.1
    go_wp2_with fail
    have hx1 := IntWalk.i64_in (E.max - E.min) (by have := HF.out.max; have := HF.out.min; omega)
    obtain ⟨mm, hm1, hm2⟩ : ∃ mm, mm = (E.max - E.min).tdiv 2 ∧ E.min + mm ≤ E.max ∧ 0 ≤ mm := by
      refine ⟨_, rfl, ?_⟩
      rw [Int.tdiv_eq_ediv_of_nonneg (by omega)]
      omega
    obtain ⟨ss, hs1, hs2⟩ : ∃ ss, ss = E.speed.tdiv 2 ∧ 0 ≤ ss ∧ ss ≤ E.speed := by
      refine ⟨_, rfl, ?_⟩
      have := HF.out.spd
      rw [Int.tdiv_eq_ediv_of_nonneg (by omega)]
      omega
    have hx2 := IntWalk.i64_in mm (by have := HF.out.max; have := HF.out.min; omega)
    have hx3 := IntWalk.i64_in (E.min + mm) (by have := HF.out.max; have := HF.out.min; omega)
    have hx4 := IntWalk.i64_in ss (by have := HF.out.spd; omega)
    have hd1 := hm1.symm
    have hd2 := hs1.symm
    clear hm1 hs1
    have SF : Hid (SupB T { E with max := E.min + mm } en) := ⟨HF.out.sup.min, by show -2147483648 ≤ E.min + mm ∧ E.min + mm ≤ 2147483648; have := HF.out.max; have := HF.out.min; omega, HF.out.sup.spd, HF.out.sup.en, HF.out.sup.acc, HF.out.sup.len⟩
    have SG : Hid (SupB T { E with speed := ss } en) := ⟨HF.out.sup.min, HF.out.sup.max, by show -2147483648 ≤ ss ∧ ss ≤ 2147483648; have := HF.out.spd; omega, HF.out.sup.en, HF.out.sup.acc, HF.out.sup.len⟩
    go_region
    all_goals go_upto_region 7 with (fail)
    · obtain ⟨w4, hw4⟩ : ∃ w4, w4 = ((w3.alloc (.cells #[.int .i64 E.min, .int .i64 (E.min + mm), .int .i64 E.speed] 29)).alloc (.cells #[.int .i64 E.min, .int .i64 E.max, .int .i64 ss] 29)).drew := ⟨_, rfl⟩
      have hq : Ext w3 w4 := by rw [hw4]; exact edr (eal (eal (Ext.refl _) _) _)
      have HB1 : Hid (CellsAt w4 w3.heap.size [.int .i64 E.min, .int .i64 (E.min + mm), .int .i64 E.speed]) := by rw [hw4]; exact ((CellsAt.new (b := w3.heap.size) rfl).alloc _).keep (edr (Ext.refl _))
      have HB2 : Hid (CellsAt w4 (w3.heap.size + 1) [.int .i64 E.min, .int .i64 E.max, .int .i64 ss]) := by rw [hw4]; exact (CellsAt.new (b := w3.heap.size + 1) (by simp)).keep (edr (Ext.refl _))
      rw [← hw4]
      clear hw4
      replace HE0 := Lib.hid (etr HE0.out hq)
      replace HCT := Lib.hid (HCT.out.keep hq)
      replace HCA := Lib.hid (HCA.out.keep hq)
      replace HCE := Lib.hid (HCE.out.keep hq)
      clear t0 t1 t2 t3 t4 t5 t6 t7 t8 t9 a0 a1 a2 a3 e0 e1 e2 zt za ze
      have t0 := HCT.out.2 0 _ rfl
      have t1 := HCT.out.2 1 _ rfl
      have t2 := HCT.out.2 2 _ rfl
      have t3 := HCT.out.2 3 _ rfl
      have t4 := HCT.out.2 4 _ rfl
      have t5 := HCT.out.2 5 _ rfl
      have t6 := HCT.out.2 6 _ rfl
      have t7 := HCT.out.2 7 _ rfl
      have t8 := HCT.out.2 8 _ rfl
      have t9 := HCT.out.2 9 _ rfl
      have zt := HCT.out.1
      have a0 := HCA.out.2 0 _ rfl
      have a1 := HCA.out.2 1 _ rfl
      have a2 := HCA.out.2 2 _ rfl
      have a3 := HCA.out.2 3 _ rfl
      have za := HCA.out.1
      have e0 := HCE.out.2 0 _ rfl
      have e1 := HCE.out.2 1 _ rfl
      have e2 := HCE.out.2 2 _ rfl
      have ze := HCE.out.1
      have n0 := HB1.out.2 0 _ rfl
      have n1 := HB1.out.2 1 _ rfl
      have n2 := HB1.out.2 2 _ rfl
      have zn := HB1.out.1
      have m0 := HB2.out.2 0 _ rfl
      have m1 := HB2.out.2 1 _ rfl
      have m2 := HB2.out.2 2 _ rfl
      have zm := HB2.out.1
      cases hA : ab
      · have hah : aheadB T p E en = false := by rw [← hab, hA]
        have HD : Hid (∀ x, Ext w4 x → Calls Try.prog 14 #[.agg #[.int .i64 T.id, .string T.name, .int .i64 T.len, .int .i64 T.speed, .int .i64 T.accel, .int .i64 T.service, .int .i64 T.emergency, .int .i64 T.delay, .int .i64 T.cons, .int .i64 T.rate], .agg #[.int .i64 sq, .int .i64 en, .slice A p.length cap, .slice LA ln lc], .agg #[.int .i64 E.min, .int .i64 E.max, .int .i64 E.speed], .int .i64 0] x fun e w' => e = .returned (.int .i64 2) ∧ Below x.heap.size x w') := fun x hx => by rw [← decd_two (old := 0) hah]; exact sdec_any T E sq en A LA p cap ln lc 0 x (fits_len HF.out) HF.out.sup (HR.out.keep (etr HE0.out hx))
        cases hS : sb
        · clear hah hab hsb hA hS
          go_wp2_with fail
          refine (to_after (HD.out _ (Ext.refl _))).mono ?_
          rintro e w' ⟨y1, rfl, rfl⟩
          go_wp2_with (go_at_call 13; refine (in_after y1 (alive_any _)).mono ?_; rintro e w' ⟨z, rfl, rfl⟩)
          go_ret
          exact ⟨rfl, etr HE0.out z.is⟩
        · have hsa : safeB T p E en = true := by rw [← hsb, hS]
          have CF : Hid (∀ x, Ext w4 x → Calls Try.prog 9 #[.agg #[.int .i64 T.id, .string T.name, .int .i64 T.len, .int .i64 T.speed, .int .i64 T.accel, .int .i64 T.service, .int .i64 T.emergency, .int .i64 T.delay, .int .i64 T.cons, .int .i64 T.rate], .agg #[.int .i64 sq, .int .i64 en, .slice A p.length cap, .slice LA ln lc], .agg #[.int .i64 E.min, .int .i64 (E.min + mm), .int .i64 E.speed]] x fun e w' => e = .returned (.bool true) ∧ Below x.heap.size x w') := fun x hx => by rw [← ((show safeB T p { E with max := E.min + mm } en = true from safe_less hsa rfl (by show E.min + mm ≤ E.max; omega) (Int.le_refl _)))]; exact supsafe_any T { E with max := E.min + mm } sq en A LA p cap ln lc x (fits_len HF.out) SF.out (HR.out.keep (etr HE0.out hx))
          have CG : Hid (∀ x, Ext w4 x → Calls Try.prog 9 #[.agg #[.int .i64 T.id, .string T.name, .int .i64 T.len, .int .i64 T.speed, .int .i64 T.accel, .int .i64 T.service, .int .i64 T.emergency, .int .i64 T.delay, .int .i64 T.cons, .int .i64 T.rate], .agg #[.int .i64 sq, .int .i64 en, .slice A p.length cap, .slice LA ln lc], .agg #[.int .i64 E.min, .int .i64 E.max, .int .i64 ss]] x fun e w' => e = .returned (.bool true) ∧ Below x.heap.size x w') := fun x hx => by rw [← ((show safeB T p { E with speed := ss } en = true from safe_less hsa rfl (Int.le_refl _) (by show ss ≤ E.speed; omega)))]; exact supsafe_any T { E with speed := ss } sq en A LA p cap ln lc x (fits_len HF.out) SG.out (HR.out.keep (etr HE0.out hx))
          clear hah hab hsb hA hS hsa
          go_wp2_with fail
          refine (to_after (CF.out _ (Ext.refl _))).mono ?_
          rintro e w' ⟨y1, rfl, rfl⟩
          go_wp2_with fail
          refine (in_after y1 (CG.out _ y1.is)).mono ?_
          rintro e w' ⟨y2, rfl, rfl⟩
          go_wp2_with fail
          refine (in_after y2 (HD.out _ y2.is)).mono ?_
          rintro e w' ⟨y3, rfl, rfl⟩
          go_wp2_with (go_at_call 13; refine (in_after y3 (alive_any _)).mono ?_; rintro e w' ⟨z, rfl, rfl⟩)
          go_ret
          exact ⟨rfl, etr HE0.out z.is⟩
      · have hah : aheadB T p E en = true := by rw [← hab, hA]
        have hsa : safeB T p E en = true := ahead_safe HF.out.spd.1 HF.out.sup.acc.1 hah
        have hS : sb = true := by rw [hsb, hsa]
        have CF : Hid (∀ x, Ext w4 x → Calls Try.prog 9 #[.agg #[.int .i64 T.id, .string T.name, .int .i64 T.len, .int .i64 T.speed, .int .i64 T.accel, .int .i64 T.service, .int .i64 T.emergency, .int .i64 T.delay, .int .i64 T.cons, .int .i64 T.rate], .agg #[.int .i64 sq, .int .i64 en, .slice A p.length cap, .slice LA ln lc], .agg #[.int .i64 E.min, .int .i64 (E.min + mm), .int .i64 E.speed]] x fun e w' => e = .returned (.bool true) ∧ Below x.heap.size x w') := fun x hx => by rw [← ((show safeB T p { E with max := E.min + mm } en = true from safe_less hsa rfl (by show E.min + mm ≤ E.max; omega) (Int.le_refl _)))]; exact supsafe_any T { E with max := E.min + mm } sq en A LA p cap ln lc x (fits_len HF.out) SF.out (HR.out.keep (etr HE0.out hx))
        have CG : Hid (∀ x, Ext w4 x → Calls Try.prog 9 #[.agg #[.int .i64 T.id, .string T.name, .int .i64 T.len, .int .i64 T.speed, .int .i64 T.accel, .int .i64 T.service, .int .i64 T.emergency, .int .i64 T.delay, .int .i64 T.cons, .int .i64 T.rate], .agg #[.int .i64 sq, .int .i64 en, .slice A p.length cap, .slice LA ln lc], .agg #[.int .i64 E.min, .int .i64 E.max, .int .i64 ss]] x fun e w' => e = .returned (.bool true) ∧ Below x.heap.size x w') := fun x hx => by rw [← ((show safeB T p { E with speed := ss } en = true from safe_less hsa rfl (Int.le_refl _) (by show ss ≤ E.speed; omega)))]; exact supsafe_any T { E with speed := ss } sq en A LA p cap ln lc x (fits_len HF.out) SG.out (HR.out.keep (etr HE0.out hx))
        have DF : Hid (∀ x, Ext w4 x → Calls Try.prog 11 #[.agg #[.int .i64 T.id, .string T.name, .int .i64 T.len, .int .i64 T.speed, .int .i64 T.accel, .int .i64 T.service, .int .i64 T.emergency, .int .i64 T.delay, .int .i64 T.cons, .int .i64 T.rate], .agg #[.int .i64 sq, .int .i64 en, .slice A p.length cap, .slice LA ln lc], .agg #[.int .i64 E.min, .int .i64 (E.min + mm), .int .i64 E.speed]] x fun e w' => e = .returned (.bool true) ∧ Below x.heap.size x w') := fun x hx => by rw [← ((show aheadB T p { E with max := E.min + mm } en = true from ahead_less hah rfl (by show E.min + mm ≤ E.max; omega) (Int.le_refl _)))]; exact supahead_any T { E with max := E.min + mm } sq en A LA p cap ln lc x (fits_len HF.out) SF.out (HR.out.keep (etr HE0.out hx))
        have DG : Hid (∀ x, Ext w4 x → Calls Try.prog 11 #[.agg #[.int .i64 T.id, .string T.name, .int .i64 T.len, .int .i64 T.speed, .int .i64 T.accel, .int .i64 T.service, .int .i64 T.emergency, .int .i64 T.delay, .int .i64 T.cons, .int .i64 T.rate], .agg #[.int .i64 sq, .int .i64 en, .slice A p.length cap, .slice LA ln lc], .agg #[.int .i64 E.min, .int .i64 E.max, .int .i64 ss]] x fun e w' => e = .returned (.bool true) ∧ Below x.heap.size x w') := fun x hx => by rw [← ((show aheadB T p { E with speed := ss } en = true from ahead_less hah rfl (Int.le_refl _) (by show ss ≤ E.speed; omega)))]; exact supahead_any T { E with speed := ss } sq en A LA p cap ln lc x (fits_len HF.out) SG.out (HR.out.keep (etr HE0.out hx))
        subst hS
        clear hah hab hsb hA hsa
        go_wp2_with fail
        refine (to_after (CF.out _ (Ext.refl _))).mono ?_
        rintro e w' ⟨y1, rfl, rfl⟩
        go_wp2_with fail
        refine (in_after y1 (CG.out _ y1.is)).mono ?_
        rintro e w' ⟨y2, rfl, rfl⟩
        go_wp2_with fail
        refine (in_after y2 (DF.out _ y2.is)).mono ?_
        rintro e w' ⟨y3, rfl, rfl⟩
        go_wp2_with fail
        refine (in_after y3 (DG.out _ y3.is)).mono ?_
        rintro e w' ⟨y4, rfl, rfl⟩
        go_wp2_with (go_at_call 13; refine (in_after y4 (alive_any _)).mono ?_; rintro e w' ⟨z, rfl, rfl⟩)
        go_ret
        exact ⟨rfl, etr HE0.out z.is⟩
    · obtain ⟨w4, hw4⟩ : ∃ w4, w4 = ((w3.alloc (.cells #[.int .i64 E.min, .int .i64 E.max, .int .i64 ss] 29)).alloc (.cells #[.int .i64 E.min, .int .i64 (E.min + mm), .int .i64 E.speed] 29)).drew := ⟨_, rfl⟩
      have hq : Ext w3 w4 := by rw [hw4]; exact edr (eal (eal (Ext.refl _) _) _)
      have HB1 : Hid (CellsAt w4 w3.heap.size [.int .i64 E.min, .int .i64 E.max, .int .i64 ss]) := by rw [hw4]; exact ((CellsAt.new (b := w3.heap.size) rfl).alloc _).keep (edr (Ext.refl _))
      have HB2 : Hid (CellsAt w4 (w3.heap.size + 1) [.int .i64 E.min, .int .i64 (E.min + mm), .int .i64 E.speed]) := by rw [hw4]; exact (CellsAt.new (b := w3.heap.size + 1) (by simp)).keep (edr (Ext.refl _))
      rw [← hw4]
      clear hw4
      replace HE0 := Lib.hid (etr HE0.out hq)
      replace HCT := Lib.hid (HCT.out.keep hq)
      replace HCA := Lib.hid (HCA.out.keep hq)
      replace HCE := Lib.hid (HCE.out.keep hq)
      clear t0 t1 t2 t3 t4 t5 t6 t7 t8 t9 a0 a1 a2 a3 e0 e1 e2 zt za ze
      have t0 := HCT.out.2 0 _ rfl
      have t1 := HCT.out.2 1 _ rfl
      have t2 := HCT.out.2 2 _ rfl
      have t3 := HCT.out.2 3 _ rfl
      have t4 := HCT.out.2 4 _ rfl
      have t5 := HCT.out.2 5 _ rfl
      have t6 := HCT.out.2 6 _ rfl
      have t7 := HCT.out.2 7 _ rfl
      have t8 := HCT.out.2 8 _ rfl
      have t9 := HCT.out.2 9 _ rfl
      have zt := HCT.out.1
      have a0 := HCA.out.2 0 _ rfl
      have a1 := HCA.out.2 1 _ rfl
      have a2 := HCA.out.2 2 _ rfl
      have a3 := HCA.out.2 3 _ rfl
      have za := HCA.out.1
      have e0 := HCE.out.2 0 _ rfl
      have e1 := HCE.out.2 1 _ rfl
      have e2 := HCE.out.2 2 _ rfl
      have ze := HCE.out.1
      have n0 := HB1.out.2 0 _ rfl
      have n1 := HB1.out.2 1 _ rfl
      have n2 := HB1.out.2 2 _ rfl
      have zn := HB1.out.1
      have m0 := HB2.out.2 0 _ rfl
      have m1 := HB2.out.2 1 _ rfl
      have m2 := HB2.out.2 2 _ rfl
      have zm := HB2.out.1
      cases hA : ab
      · have hah : aheadB T p E en = false := by rw [← hab, hA]
        have HD : Hid (∀ x, Ext w4 x → Calls Try.prog 14 #[.agg #[.int .i64 T.id, .string T.name, .int .i64 T.len, .int .i64 T.speed, .int .i64 T.accel, .int .i64 T.service, .int .i64 T.emergency, .int .i64 T.delay, .int .i64 T.cons, .int .i64 T.rate], .agg #[.int .i64 sq, .int .i64 en, .slice A p.length cap, .slice LA ln lc], .agg #[.int .i64 E.min, .int .i64 E.max, .int .i64 E.speed], .int .i64 0] x fun e w' => e = .returned (.int .i64 2) ∧ Below x.heap.size x w') := fun x hx => by rw [← decd_two (old := 0) hah]; exact sdec_any T E sq en A LA p cap ln lc 0 x (fits_len HF.out) HF.out.sup (HR.out.keep (etr HE0.out hx))
        cases hS : sb
        · clear hah hab hsb hA hS
          go_wp2_with fail
          refine (to_after (HD.out _ (Ext.refl _))).mono ?_
          rintro e w' ⟨y1, rfl, rfl⟩
          go_wp2_with (go_at_call 13; refine (in_after y1 (alive_any _)).mono ?_; rintro e w' ⟨z, rfl, rfl⟩)
          go_ret
          exact ⟨rfl, etr HE0.out z.is⟩
        · have hsa : safeB T p E en = true := by rw [← hsb, hS]
          have CF : Hid (∀ x, Ext w4 x → Calls Try.prog 9 #[.agg #[.int .i64 T.id, .string T.name, .int .i64 T.len, .int .i64 T.speed, .int .i64 T.accel, .int .i64 T.service, .int .i64 T.emergency, .int .i64 T.delay, .int .i64 T.cons, .int .i64 T.rate], .agg #[.int .i64 sq, .int .i64 en, .slice A p.length cap, .slice LA ln lc], .agg #[.int .i64 E.min, .int .i64 (E.min + mm), .int .i64 E.speed]] x fun e w' => e = .returned (.bool true) ∧ Below x.heap.size x w') := fun x hx => by rw [← ((show safeB T p { E with max := E.min + mm } en = true from safe_less hsa rfl (by show E.min + mm ≤ E.max; omega) (Int.le_refl _)))]; exact supsafe_any T { E with max := E.min + mm } sq en A LA p cap ln lc x (fits_len HF.out) SF.out (HR.out.keep (etr HE0.out hx))
          have CG : Hid (∀ x, Ext w4 x → Calls Try.prog 9 #[.agg #[.int .i64 T.id, .string T.name, .int .i64 T.len, .int .i64 T.speed, .int .i64 T.accel, .int .i64 T.service, .int .i64 T.emergency, .int .i64 T.delay, .int .i64 T.cons, .int .i64 T.rate], .agg #[.int .i64 sq, .int .i64 en, .slice A p.length cap, .slice LA ln lc], .agg #[.int .i64 E.min, .int .i64 E.max, .int .i64 ss]] x fun e w' => e = .returned (.bool true) ∧ Below x.heap.size x w') := fun x hx => by rw [← ((show safeB T p { E with speed := ss } en = true from safe_less hsa rfl (Int.le_refl _) (by show ss ≤ E.speed; omega)))]; exact supsafe_any T { E with speed := ss } sq en A LA p cap ln lc x (fits_len HF.out) SG.out (HR.out.keep (etr HE0.out hx))
          clear hah hab hsb hA hS hsa
          go_wp2_with fail
          refine (to_after (CF.out _ (Ext.refl _))).mono ?_
          rintro e w' ⟨y1, rfl, rfl⟩
          go_wp2_with fail
          refine (in_after y1 (CG.out _ y1.is)).mono ?_
          rintro e w' ⟨y2, rfl, rfl⟩
          go_wp2_with fail
          refine (in_after y2 (HD.out _ y2.is)).mono ?_
          rintro e w' ⟨y3, rfl, rfl⟩
          go_wp2_with (go_at_call 13; refine (in_after y3 (alive_any _)).mono ?_; rintro e w' ⟨z, rfl, rfl⟩)
          go_ret
          exact ⟨rfl, etr HE0.out z.is⟩
      · have hah : aheadB T p E en = true := by rw [← hab, hA]
        have hsa : safeB T p E en = true := ahead_safe HF.out.spd.1 HF.out.sup.acc.1 hah
        have hS : sb = true := by rw [hsb, hsa]
        have CF : Hid (∀ x, Ext w4 x → Calls Try.prog 9 #[.agg #[.int .i64 T.id, .string T.name, .int .i64 T.len, .int .i64 T.speed, .int .i64 T.accel, .int .i64 T.service, .int .i64 T.emergency, .int .i64 T.delay, .int .i64 T.cons, .int .i64 T.rate], .agg #[.int .i64 sq, .int .i64 en, .slice A p.length cap, .slice LA ln lc], .agg #[.int .i64 E.min, .int .i64 (E.min + mm), .int .i64 E.speed]] x fun e w' => e = .returned (.bool true) ∧ Below x.heap.size x w') := fun x hx => by rw [← ((show safeB T p { E with max := E.min + mm } en = true from safe_less hsa rfl (by show E.min + mm ≤ E.max; omega) (Int.le_refl _)))]; exact supsafe_any T { E with max := E.min + mm } sq en A LA p cap ln lc x (fits_len HF.out) SF.out (HR.out.keep (etr HE0.out hx))
        have CG : Hid (∀ x, Ext w4 x → Calls Try.prog 9 #[.agg #[.int .i64 T.id, .string T.name, .int .i64 T.len, .int .i64 T.speed, .int .i64 T.accel, .int .i64 T.service, .int .i64 T.emergency, .int .i64 T.delay, .int .i64 T.cons, .int .i64 T.rate], .agg #[.int .i64 sq, .int .i64 en, .slice A p.length cap, .slice LA ln lc], .agg #[.int .i64 E.min, .int .i64 E.max, .int .i64 ss]] x fun e w' => e = .returned (.bool true) ∧ Below x.heap.size x w') := fun x hx => by rw [← ((show safeB T p { E with speed := ss } en = true from safe_less hsa rfl (Int.le_refl _) (by show ss ≤ E.speed; omega)))]; exact supsafe_any T { E with speed := ss } sq en A LA p cap ln lc x (fits_len HF.out) SG.out (HR.out.keep (etr HE0.out hx))
        have DF : Hid (∀ x, Ext w4 x → Calls Try.prog 11 #[.agg #[.int .i64 T.id, .string T.name, .int .i64 T.len, .int .i64 T.speed, .int .i64 T.accel, .int .i64 T.service, .int .i64 T.emergency, .int .i64 T.delay, .int .i64 T.cons, .int .i64 T.rate], .agg #[.int .i64 sq, .int .i64 en, .slice A p.length cap, .slice LA ln lc], .agg #[.int .i64 E.min, .int .i64 (E.min + mm), .int .i64 E.speed]] x fun e w' => e = .returned (.bool true) ∧ Below x.heap.size x w') := fun x hx => by rw [← ((show aheadB T p { E with max := E.min + mm } en = true from ahead_less hah rfl (by show E.min + mm ≤ E.max; omega) (Int.le_refl _)))]; exact supahead_any T { E with max := E.min + mm } sq en A LA p cap ln lc x (fits_len HF.out) SF.out (HR.out.keep (etr HE0.out hx))
        have DG : Hid (∀ x, Ext w4 x → Calls Try.prog 11 #[.agg #[.int .i64 T.id, .string T.name, .int .i64 T.len, .int .i64 T.speed, .int .i64 T.accel, .int .i64 T.service, .int .i64 T.emergency, .int .i64 T.delay, .int .i64 T.cons, .int .i64 T.rate], .agg #[.int .i64 sq, .int .i64 en, .slice A p.length cap, .slice LA ln lc], .agg #[.int .i64 E.min, .int .i64 E.max, .int .i64 ss]] x fun e w' => e = .returned (.bool true) ∧ Below x.heap.size x w') := fun x hx => by rw [← ((show aheadB T p { E with speed := ss } en = true from ahead_less hah rfl (Int.le_refl _) (by show ss ≤ E.speed; omega)))]; exact supahead_any T { E with speed := ss } sq en A LA p cap ln lc x (fits_len HF.out) SG.out (HR.out.keep (etr HE0.out hx))
        subst hS
        clear hah hab hsb hA hsa
        go_wp2_with fail
        refine (to_after (CF.out _ (Ext.refl _))).mono ?_
        rintro e w' ⟨y1, rfl, rfl⟩
        go_wp2_with fail
        refine (in_after y1 (CG.out _ y1.is)).mono ?_
        rintro e w' ⟨y2, rfl, rfl⟩
        go_wp2_with fail
        refine (in_after y2 (DF.out _ y2.is)).mono ?_
        rintro e w' ⟨y3, rfl, rfl⟩
        go_wp2_with fail
        refine (in_after y3 (DG.out _ y3.is)).mono ?_
        rintro e w' ⟨y4, rfl, rfl⟩
        go_wp2_with (go_at_call 13; refine (in_after y4 (alive_any _)).mono ?_; rintro e w' ⟨z, rfl, rfl⟩)
        go_ret
        exact ⟨rfl, etr HE0.out z.is⟩

end Go.Proofs.Ythkknagicdanfaa
