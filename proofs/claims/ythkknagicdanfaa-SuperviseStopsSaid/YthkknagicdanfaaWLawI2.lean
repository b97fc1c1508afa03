/- Walks of chapter 34's laws: Judges, Decides, Eases. -/
import Derived.Test.YthkknagicdanfaaWLawI
set_option linter.unusedVariables false
set_option linter.unusedSimpArgs false
namespace Go.Proofs.Ythkknagicdanfaa
open Go.ChangeShapes Go.WideShapes Go.ChangeAt Go.RowKit
open Sg

theorem beq_self (b : Bool) : (b == b) = true := by cases b <;> rfl
theorem bne_int (n : Int) : (n != n) = false := by simp
theorem beq_int (n : Int) : (n == n) = true := by simp
theorem fits_len {T : Tr} {p : List Sgm} {E : Es} {en : Int} (h : Fits T p E en) : p.length ≤ 1000000 := by have := h.len; omega

set_option maxHeartbeats 16000000 in
set_option maxRecDepth 100000 in
theorem judges_walk (T : Tr) (E : Es) (sq en : Int) (A LA : Option Addr) (p : List Sgm) (cap ln lc : Nat) (w : World) (hs : T.name.size ≤ maxLen) (hr : Rd w A 4 Sgc p) :
    Calls Try.prog 3 #[.agg #[.int .i64 T.id, .string T.name, .int .i64 T.len, .int .i64 T.speed, .int .i64 T.accel, .int .i64 T.service, .int .i64 T.emergency, .int .i64 T.delay, .int .i64 T.cons, .int .i64 T.rate], .agg #[.int .i64 sq, .int .i64 en, .slice A p.length cap, .slice LA ln lc], .agg #[.int .i64 E.min, .int .i64 E.max, .int .i64 E.speed]] w fun e w' => e = .returned (.bool true) ∧ Below w.heap.size w w' := by
  have HR := Lib.hid hr
  clear hr
  obtain ⟨w1, hw⟩ : ∃ w1, w1 = ((w.alloc (.cells #[.int .i64 T.id, .string T.name, .int .i64 T.len, .int .i64 T.speed, .int .i64 T.accel, .int .i64 T.service, .int .i64 T.emergency, .int .i64 T.delay, .int .i64 T.cons, .int .i64 T.rate] 23)).alloc (.cells #[.int .i64 sq, .int .i64 en, .slice A p.length cap, .slice LA ln lc] 27)).alloc (.cells #[.int .i64 E.min, .int .i64 E.max, .int .i64 E.speed] 29) := ⟨_, rfl⟩
  have HE0 : Hid (Ext w w1) := by rw [hw]; exact eal (eal (eal (Ext.refl w) (.cells #[.int .i64 T.id, .string T.name, .int .i64 T.len, .int .i64 T.speed, .int .i64 T.accel, .int .i64 T.service, .int .i64 T.emergency, .int .i64 T.delay, .int .i64 T.cons, .int .i64 T.rate] 23)) (.cells #[.int .i64 sq, .int .i64 en, .slice A p.length cap, .slice LA ln lc] 27)) (.cells #[.int .i64 E.min, .int .i64 E.max, .int .i64 E.speed] 29)
  have HCT : Hid (CellsAt w1 w.heap.size [.int .i64 T.id, .string T.name, .int .i64 T.len, .int .i64 T.speed, .int .i64 T.accel, .int .i64 T.service, .int .i64 T.emergency, .int .i64 T.delay, .int .i64 T.cons, .int .i64 T.rate]) := by rw [hw]; exact ((CellsAt.new (w := w) (cs := #[.int .i64 T.id, .string T.name, .int .i64 T.len, .int .i64 T.speed, .int .i64 T.accel, .int .i64 T.service, .int .i64 T.emergency, .int .i64 T.delay, .int .i64 T.cons, .int .i64 T.rate]) (t := 23) rfl).alloc _).alloc _
  have HCA : Hid (CellsAt w1 (w.heap.size + 1) [.int .i64 sq, .int .i64 en, .slice A p.length cap, .slice LA ln lc]) := by rw [hw]; exact (CellsAt.new (w := w.alloc (.cells #[.int .i64 T.id, .string T.name, .int .i64 T.len, .int .i64 T.speed, .int .i64 T.accel, .int .i64 T.service, .int .i64 T.emergency, .int .i64 T.delay, .int .i64 T.cons, .int .i64 T.rate] 23)) (cs := #[.int .i64 sq, .int .i64 en, .slice A p.length cap, .slice LA ln lc]) (t := 27) (by simp)).alloc _
  have HCE : Hid (CellsAt w1 (w.heap.size + 1 + 1) [.int .i64 E.min, .int .i64 E.max, .int .i64 E.speed]) := by rw [hw]; exact CellsAt.new (by simp)
  have HFC : Hid (∀ x, Ext w1 x → Calls Try.prog 8 #[.agg #[.int .i64 T.id, .string T.name, .int .i64 T.len, .int .i64 T.speed, .int .i64 T.accel, .int .i64 T.service, .int .i64 T.emergency, .int .i64 T.delay, .int .i64 T.cons, .int .i64 T.rate], .agg #[.int .i64 sq, .int .i64 en, .slice A p.length cap, .slice LA ln lc], .agg #[.int .i64 E.min, .int .i64 E.max, .int .i64 E.speed]] x fun e w' => e = .returned (.bool (fitsB T p E en)) ∧ Below x.heap.size x w') := fun x hx => fit_any T E sq en A LA p cap ln lc x hs
  have HAL : Hid (∀ x, Calls Try.prog 13 #[] x fun e w' => e = .returned (.bool true) ∧ Below x.heap.size x w') := alive_any
  cases hf : fitsB T p E en
  · rw [hf] at HFC
    clear hf
    go_enter Try.func3, Try.ntmps3
    go_upto_region 1 with (fail)
    rw [← hw]
    clear hw
    have t0 := HCT.out.2 0 _ rfl
    have t1 := HCT.out.2 1 _ rfl
    have t2 := HCT.out.2 2 _ rfl
    have t3 := HCT.out.2 3 _ rfl
    have t4 := HCT.out.2 4 _ rfl
    have t5 := HCT.out.2 5 _ rfl
    have t6 := HCT.out.2 6 _ rfl
    have t7 := HCT.out.2 7 _ rfl
    have t8 := HCT.out.2 8 _ rfl
    have t9 := HCT.out.2 9 _ rfl
    have zt := HCT.out.1
    have a0 := HCA.out.2 0 _ rfl
    have a1 := HCA.out.2 1 _ rfl
    have a2 := HCA.out.2 2 _ rfl
    have a3 := HCA.out.2 3 _ rfl
    have za := HCA.out.1
    have e0 := HCE.out.2 0 _ rfl
    have e1 := HCE.out.2 1 _ rfl
    have e2 := HCE.out.2 2 _ rfl
    have ze := HCE.out.1
    go_wp2_with fail
    refine wp_region_after (by kernel_rfl) (by kernel_rfl) ?_
    repeat (first | go_big_quiet_step ((first
      | (go_at_call 8; exact after_call _ (HFC.out _ (After.is _)))
      | (go_at_call 13; exact after_call _ (HAL.out _)))))
    refine wpQuiet_nil ?_
    rintro _ ⟨y, rfl⟩
    go_wp2
    go_ret
    exact ⟨rfl, etr HE0.out y.is⟩
  · have HF := Lib.hid (fits_of hf)
    rw [hf] at HFC
    clear hf
    obtain ⟨sb, hsb⟩ : ∃ sb, sb = safeB T p E en := ⟨_, rfl⟩
    obtain ⟨ab, hab⟩ : ∃ ab, ab = aheadB T p E en := ⟨_, rfl⟩
    have HS1 : Hid (∀ x, Ext w1 x → Calls Try.prog 9 #[.agg #[.int .i64 T.id, .string T.name, .int .i64 T.len, .int .i64 T.speed, .int .i64 T.accel, .int .i64 T.service, .int .i64 T.emergency, .int .i64 T.delay, .int .i64 T.cons, .int .i64 T.rate], .agg #[.int .i64 sq, .int .i64 en, .slice A p.length cap, .slice LA ln lc], .agg #[.int .i64 E.min, .int .i64 E.max, .int .i64 E.speed]] x fun e w' => e = .returned (.bool sb) ∧ Below x.heap.size x w') := fun x hx => by rw [hsb]; exact supsafe_any T E sq en A LA p cap ln lc x (fits_len HF.out) HF.out.sup (HR.out.keep (etr HE0.out hx))
    have HS2 : Hid (∀ x, Ext w1 x → Calls Try.prog 10 #[.agg #[.int .i64 T.id, .string T.name, .int .i64 T.len, .int .i64 T.speed, .int .i64 T.accel, .int .i64 T.service, .int .i64 T.emergency, .int .i64 T.delay, .int .i64 T.cons, .int .i64 T.rate], .agg #[.int .i64 sq, .int .i64 en, .slice A p.length cap, .slice LA ln lc], .agg #[.int .i64 E.min, .int .i64 E.max, .int .i64 E.speed]] x fun e w' => e = .returned (.bool sb) ∧ Below x.heap.size x w') := fun x hx => by rw [hsb]; exact rsafe_any T E sq en A LA p cap ln lc x (fits_len HF.out) HF.out.sup (HR.out.keep (etr HE0.out hx))
    have HA1 : Hid (∀ x, Ext w1 x → Calls Try.prog 11 #[.agg #[.int .i64 T.id, .string T.name, .int .i64 T.len, .int .i64 T.speed, .int .i64 T.accel, .int .i64 T.service, .int .i64 T.emergency, .int .i64 T.delay, .int .i64 T.cons, .int .i64 T.rate], .agg #[.int .i64 sq, .int .i64 en, .slice A p.length cap, .slice LA ln lc], .agg #[.int .i64 E.min, .int .i64 E.max, .int .i64 E.speed]] x fun e w' => e = .returned (.bool ab) ∧ Below x.heap.size x w') := fun x hx => by rw [hab]; exact supahead_any T E sq en A LA p cap ln lc x (fits_len HF.out) HF.out.sup (HR.out.keep (etr HE0.out hx))
    have HA2 : Hid (∀ x, Ext w1 x → Calls Try.prog 12 #[.agg #[.int .i64 T.id, .string T.name, .int .i64 T.len, .int .i64 T.speed, .int .i64 T.accel, .int .i64 T.service, .int .i64 T.emergency, .int .i64 T.delay, .int .i64 T.cons, .int .i64 T.rate], .agg #[.int .i64 sq, .int .i64 en, .slice A p.length cap, .slice LA ln lc], .agg #[.int .i64 E.min, .int .i64 E.max, .int .i64 E.speed]] x fun e w' => e = .returned (.bool ab) ∧ Below x.heap.size x w') := fun x hx => by rw [hab]; exact rahead_any T E sq en A LA p cap ln lc x (fits_len HF.out) HF.out.sup (HR.out.keep (etr HE0.out hx))
    have q1 := beq_self sb
    have q2 := beq_self ab
    clear hsb hab
    go_enter Try.func3, Try.ntmps3
    go_upto_region 1 with (fail)
    rw [← hw]
    clear hw
    have t0 := HCT.out.2 0 _ rfl
    have t1 := HCT.out.2 1 _ rfl
    have t2 := HCT.out.2 2 _ rfl
    have t3 := HCT.out.2 3 _ rfl
    have t4 := HCT.out.2 4 _ rfl
    have t5 := HCT.out.2 5 _ rfl
    have t6 := HCT.out.2 6 _ rfl
    have t7 := HCT.out.2 7 _ rfl
    have t8 := HCT.out.2 8 _ rfl
    have t9 := HCT.out.2 9 _ rfl
    have zt := HCT.out.1
    have a0 := HCA.out.2 0 _ rfl
    have a1 := HCA.out.2 1 _ rfl
    have a2 := HCA.out.2 2 _ rfl
    have a3 := HCA.out.2 3 _ rfl
    have za := HCA.out.1
    have e0 := HCE.out.2 0 _ rfl
    have e1 := HCE.out.2 1 _ rfl
    have e2 := HCE.out.2 2 _ rfl
    have ze := HCE.out.1
    go_wp2_with fail
    refine wp_region_after (by kernel_rfl) (by kernel_rfl) ?_
    repeat (first | go_big_quiet_step ((first
      | (go_at_call 8; exact after_call _ (HFC.out _ (After.is _)))
      | (go_at_call 9; exact after_call _ (HS1.out _ (After.is _)))
      | (go_at_call 10; exact after_call _ (HS2.out _ (After.is _)))
      | (go_at_call 11; exact after_call _ (HA1.out _ (After.is _)))
      | (go_at_call 12; exact after_call _ (HA2.out _ (After.is _)))
      | (go_at_call 13; exact after_call _ (HAL.out _)))))
    refine wpQuiet_nil ?_
    rintro _ ⟨y, rfl⟩
    go_wp2
    go_ret
    exact ⟨rfl, etr HE0.out y.is⟩

def olds : List Int := [0, 1, 2, -1, 3]
set_option maxHeartbeats 16000000 in
set_option maxRecDepth 100000 in
theorem decides_walk (T : Tr) (E : Es) (sq en : Int) (A LA : Option Addr) (p : List Sgm) (cap ln lc : Nat) (w : World) (hs : T.name.size ≤ maxLen) (hr : Rd w A 4 Sgc p) :
    Calls Try.prog 4 #[.agg #[.int .i64 T.id, .string T.name, .int .i64 T.len, .int .i64 T.speed, .int .i64 T.accel, .int .i64 T.service, .int .i64 T.emergency, .int .i64 T.delay, .int .i64 T.cons, .int .i64 T.rate], .agg #[.int .i64 sq, .int .i64 en, .slice A p.length cap, .slice LA ln lc], .agg #[.int .i64 E.min, .int .i64 E.max, .int .i64 E.speed]] w fun e w' => e = .returned (.bool true) ∧ Below w.heap.size w w' := by
  have HR := Lib.hid hr
  clear hr
  obtain ⟨w1, hw⟩ : ∃ w1, w1 = ((w.alloc (.cells #[.int .i64 T.id, .string T.name, .int .i64 T.len, .int .i64 T.speed, .int .i64 T.accel, .int .i64 T.service, .int .i64 T.emergency, .int .i64 T.delay, .int .i64 T.cons, .int .i64 T.rate] 23)).alloc (.cells #[.int .i64 sq, .int .i64 en, .slice A p.length cap, .slice LA ln lc] 27)).alloc (.cells #[.int .i64 E.min, .int .i64 E.max, .int .i64 E.speed] 29) := ⟨_, rfl⟩
  have HE0 : Hid (Ext w w1) := by rw [hw]; exact eal (eal (eal (Ext.refl w) (.cells #[.int .i64 T.id, .string T.name, .int .i64 T.len, .int .i64 T.speed, .int .i64 T.accel, .int .i64 T.service, .int .i64 T.emergency, .int .i64 T.delay, .int .i64 T.cons, .int .i64 T.rate] 23)) (.cells #[.int .i64 sq, .int .i64 en, .slice A p.length cap, .slice LA ln lc] 27)) (.cells #[.int .i64 E.min, .int .i64 E.max, .int .i64 E.speed] 29)
  have HCT : Hid (CellsAt w1 w.heap.size [.int .i64 T.id, .string T.name, .int .i64 T.len, .int .i64 T.speed, .int .i64 T.accel, .int .i64 T.service, .int .i64 T.emergency, .int .i64 T.delay, .int .i64 T.cons, .int .i64 T.rate]) := by rw [hw]; exact ((CellsAt.new (w := w) (cs := #[.int .i64 T.id, .string T.name, .int .i64 T.len, .int .i64 T.speed, .int .i64 T.accel, .int .i64 T.service, .int .i64 T.emergency, .int .i64 T.delay, .int .i64 T.cons, .int .i64 T.rate]) (t := 23) rfl).alloc _).alloc _
  have HCA : Hid (CellsAt w1 (w.heap.size + 1) [.int .i64 sq, .int .i64 en, .slice A p.length cap, .slice LA ln lc]) := by rw [hw]; exact (CellsAt.new (w := w.alloc (.cells #[.int .i64 T.id, .string T.name, .int .i64 T.len, .int .i64 T.speed, .int .i64 T.accel, .int .i64 T.service, .int .i64 T.emergency, .int .i64 T.delay, .int .i64 T.cons, .int .i64 T.rate] 23)) (cs := #[.int .i64 sq, .int .i64 en, .slice A p.length cap, .slice LA ln lc]) (t := 27) (by simp)).alloc _
  have HCE : Hid (CellsAt w1 (w.heap.size + 1 + 1) [.int .i64 E.min, .int .i64 E.max, .int .i64 E.speed]) := by rw [hw]; exact CellsAt.new (by simp)
  have HFC : Hid (∀ x, Ext w1 x → Calls Try.prog 8 #[.agg #[.int .i64 T.id, .string T.name, .int .i64 T.len, .int .i64 T.speed, .int .i64 T.accel, .int .i64 T.service, .int .i64 T.emergency, .int .i64 T.delay, .int .i64 T.cons, .int .i64 T.rate], .agg #[.int .i64 sq, .int .i64 en, .slice A p.length cap, .slice LA ln lc], .agg #[.int .i64 E.min, .int .i64 E.max, .int .i64 E.speed]] x fun e w' => e = .returned (.bool (fitsB T p E en)) ∧ Below x.heap.size x w') := fun x hx => fit_any T E sq en A LA p cap ln lc x hs
  cases hf : fitsB T p E en
  · rw [hf] at HFC
    clear hf
    go_enter Try.func4, Try.ntmps4
    go_upto_region 1 with (fail)
    rw [← hw]
    clear hw
    have t0 := HCT.out.2 0 _ rfl
    have t1 := HCT.out.2 1 _ rfl
    have t2 := HCT.out.2 2 _ rfl
    have t3 := HCT.out.2 3 _ rfl
    have t4 := HCT.out.2 4 _ rfl
    have t5 := HCT.out.2 5 _ rfl
    have t6 := HCT.out.2 6 _ rfl
    have t7 := HCT.out.2 7 _ rfl
    have t8 := HCT.out.2 8 _ rfl
    have t9 := HCT.out.2 9 _ rfl
    have zt := HCT.out.1
    have a0 := HCA.out.2 0 _ rfl
    have a1 := HCA.out.2 1 _ rfl
    have a2 := HCA.out.2 2 _ rfl
    have a3 := HCA.out.2 3 _ rfl
    have za := HCA.out.1
    have e0 := HCE.out.2 0 _ rfl
    have e1 := HCE.out.2 1 _ rfl
    have e2 := HCE.out.2 2 _ rfl
    have ze := HCE.out.1
    go_wp2_with (first
      | (go_at_call 8; refine (to_after (HFC.out _ (Ext.refl _))).mono ?_; rintro e w' ⟨y, rfl, rfl⟩)
      | (go_at_call 13; refine (in_after y (alive_any _)).mono ?_; rintro e w' ⟨z, rfl, rfl⟩))
    go_ret
    exact ⟨rfl, etr HE0.out z.is⟩
  · have HF := Lib.hid (fits_of hf)
    rw [hf] at HFC
    clear hf

    go_enter Try.func4, Try.ntmps4
    go_upto_region 1 with (fail)
    rw [← hw]
    clear hw
    have t0 := HCT.out.2 0 _ rfl
    have t1 := HCT.out.2 1 _ rfl
    have t2 := HCT.out.2 2 _ rfl
    have t3 := HCT.out.2 3 _ rfl
    have t4 := HCT.out.2 4 _ rfl
    have t5 := HCT.out.2 5 _ rfl
    have t6 := HCT.out.2 6 _ rfl
    have t7 := HCT.out.2 7 _ rfl
    have t8 := HCT.out.2 8 _ rfl
    have t9 := HCT.out.2 9 _ rfl
    have zt := HCT.out.1
    have a0 := HCA.out.2 0 _ rfl
    have a1 := HCA.out.2 1 _ rfl
    have a2 := HCA.out.2 2 _ rfl
    have a3 := HCA.out.2 3 _ rfl
    have za := HCA.out.1
    have e0 := HCE.out.2 0 _ rfl
    have e1 := HCE.out.2 1 _ rfl
    have e2 := HCE.out.2 2 _ rfl
    have ze := HCE.out.1
    go_wp2_with fail
    refine (HFC.out _ (Ext.refl _)).mono ?_
    rintro e w2 ⟨rfl, hb2⟩
    replace HE0 := Lib.hid (etr HE0.out hb2)
    replace HCT := Lib.hid (HCT.out.keep hb2)
    replace HCA := Lib.hid (HCA.out.keep hb2)
    replace HCE := Lib.hid (HCE.out.keep hb2)
    clear hb2
    clear t0 t1 t2 t3 t4 t5 t6 t7 t8 t9 a0 a1 a2 a3 e0 e1 e2 zt za ze
    have t0 := HCT.out.2 0 _ rfl
    have t1 := HCT.out.2 1 _ rfl
    have t2 := HCT.out.2 2 _ rfl
    have t3 := HCT.out.2 3 _ rfl
    have t4 := HCT.out.2 4 _ rfl
    have t5 := HCT.out.2 5 _ rfl
    have t6 := HCT.out.2 6 _ rfl
    have t7 := HCT.out.2 7 _ rfl
    have t8 := HCT.out.2 8 _ rfl
    have t9 := HCT.out.2 9 _ rfl
    have zt := HCT.out.1
    have a0 := HCA.out.2 0 _ rfl
    have a1 := HCA.out.2 1 _ rfl
    have a2 := HCA.out.2 2 _ rfl
    have a3 := HCA.out.2 3 _ rfl
    have za := HCA.out.1
    have e0 := HCE.out.2 0 _ rfl
    have e1 := HCE.out.2 1 _ rfl
    have e2 := HCE.out.2 2 _ rfl
    have ze := HCE.out.1
    have HX := Lib.hid (rdi_of (w := w2.alloc (.cells #[.int .i64 0, .int .i64 1, .int .i64 2, .int .i64 (-1), .int .i64 3] 3)) (b := w2.heap.size) (xs := olds) (CellsAt.new rfl))
    have HX1 := Lib.hid (eal (Ext.refl w2) (.cells #[.int .i64 0, .int .i64 1, .int .i64 2, .int .i64 (-1), .int .i64 3] 3))
    go_wp2_with fail
    obtain ⟨w3, hw3⟩ : ∃ w3, w3 = w2.alloc (.cells #[.int .i64 0, .int .i64 1, .int .i64 2, .int .i64 (-1), .int .i64 3] 3) := ⟨_, rfl⟩
    rw [← hw3] at HX HX1 ⊢
    clear hw3
    clear t0 t1 t2 t3 t4 t5 t6 t7 t8 t9 a0 a1 a2 a3 e0 e1 e2 zt za ze
    go_loopg [17] 5 (fun g i wr => ∃ j : Nat, i = .int .i64 j ∧ j ≤ 5 ∧ g = 5 - j ∧ Hid (Ext w3 wr))
    case atStart => exact ⟨0, rfl, by omega, rfl, Ext.refl _⟩
    case round =>
      obtain ⟨j, rfl, hj, hg, H⟩ := hrel
      have HG := Lib.hid hg
      clear hg
      by_cases hlt : j < 5
      · obtain ⟨b, off, hA, hb, hc⟩ := HX.out (by simp [olds])
        simp only [Option.some.injEq, Addr.mk.injEq] at hA
        obtain ⟨rfl, rfl, -⟩ := hA
        have c0 := (H.out.cell (p := ⟨w2.heap.size, 0 + j, none⟩) hb).trans (hc j (by simpa [olds] using hlt))
        obtain ⟨x, hx⟩ : ∃ x, olds[j]? = some x := ⟨_, List.getElem?_eq_getElem (by simpa [olds] using hlt)⟩
        have e : olds.getD j 0 = x := by rw [List.getD_eq_getElem?_getD, hx]; rfl
        rw [e, Nat.zero_add] at c0
        have hbz : w2.heap.size < wr.heap.size := Nat.lt_of_lt_of_le hb H.out.size
        clear hc e hx hb
        obtain ⟨dv, hdv⟩ : ∃ dv, dv = decdV T p E en x := ⟨_, rfl⟩
        have HD1 : Hid (∀ x2, Ext wr x2 → Calls Try.prog 14 #[.agg #[.int .i64 T.id, .string T.name, .int .i64 T.len, .int .i64 T.speed, .int .i64 T.accel, .int .i64 T.service, .int .i64 T.emergency, .int .i64 T.delay, .int .i64 T.cons, .int .i64 T.rate], .agg #[.int .i64 sq, .int .i64 en, .slice A p.length cap, .slice LA ln lc], .agg #[.int .i64 E.min, .int .i64 E.max, .int .i64 E.speed], .int .i64 x] x2 fun e w' => e = .returned (.int .i64 dv) ∧ Below x2.heap.size x2 w') := fun x2 hx => by rw [hdv]; exact sdec_any T E sq en A LA p cap ln lc _ x2 (fits_len HF.out) HF.out.sup (HR.out.keep (etr (etr (etr HE0.out HX1.out) H.out) hx))
        have HD2 : Hid (∀ x2, Ext wr x2 → Calls Try.prog 15 #[.agg #[.int .i64 T.id, .string T.name, .int .i64 T.len, .int .i64 T.speed, .int .i64 T.accel, .int .i64 T.service, .int .i64 T.emergency, .int .i64 T.delay, .int .i64 T.cons, .int .i64 T.rate], .agg #[.int .i64 sq, .int .i64 en, .slice A p.length cap, .slice LA ln lc], .agg #[.int .i64 E.min, .int .i64 E.max, .int .i64 E.speed], .int .i64 x] x2 fun e w' => e = .returned (.int .i64 dv) ∧ Below x2.heap.size x2 w') := fun x2 hx => by rw [hdv]; exact rdec_any T E sq en A LA p cap ln lc _ x2 (fits_len HF.out) HF.out.sup (HR.out.keep (etr (etr (etr HE0.out HX1.out) H.out) hx))
        have q1 := bne_int dv
        clear hdv
        have HT3 := Lib.hid ((HCT.out.keep HX1.out).keep H.out)
        have HA3 := Lib.hid ((HCA.out.keep HX1.out).keep H.out)
        have HE3 := Lib.hid ((HCE.out.keep HX1.out).keep H.out)
        have t0 := HT3.out.2 0 _ rfl
        have t1 := HT3.out.2 1 _ rfl
        have t2 := HT3.out.2 2 _ rfl
        have t3 := HT3.out.2 3 _ rfl
        have t4 := HT3.out.2 4 _ rfl
        have t5 := HT3.out.2 5 _ rfl
        have t6 := HT3.out.2 6 _ rfl
        have t7 := HT3.out.2 7 _ rfl
        have t8 := HT3.out.2 8 _ rfl
        have t9 := HT3.out.2 9 _ rfl
        have zt := HT3.out.1
        have a0 := HA3.out.2 0 _ rfl
        have a1 := HA3.out.2 1 _ rfl
        have a2 := HA3.out.2 2 _ rfl
        have a3 := HA3.out.2 3 _ rfl
        have za := HA3.out.1
        have e0 := HE3.out.2 0 _ rfl
        have e1 := HE3.out.2 1 _ rfl
        have e2 := HE3.out.2 2 _ rfl
        have ze := HE3.out.1
        go_wp2_with fail
        refine wp_region_after (by kernel_rfl) (by kernel_rfl) ?_
        repeat (first | go_big_quiet_step ((first
          | (go_at_call 14; exact after_call _ (HD1.out _ (After.is _)))
          | (go_at_call 15; exact after_call _ (HD2.out _ (After.is _))))))
        refine wpQuiet_nil ?_
        rintro _ ⟨y, rfl⟩
        go_wp2
        go_roundg (5 - (j + 1))
        case measure => have := HG.out; omega
        case rel => exact ⟨j + 1, by go_num, by omega, rfl, etr H.out y.is⟩
      · go_wp2_with (go_at_call 13; refine (to_after (alive_any _)).mono ?_; rintro e w' ⟨z, rfl, rfl⟩)
        go_ret
        exact ⟨rfl, etr (etr (etr HE0.out HX1.out) H.out) z.is⟩

end Go.Proofs.Ythkknagicdanfaa
