/- Walks of package supervise and of its reference: the reference's Safe and Ahead; Decide. -/
import Derived.Test.YtbgmknkmfhpgeaaDoorWSup
set_option linter.unusedVariables false
set_option linter.unusedSimpArgs false
namespace Go.Proofs.YtbgmknkmfhpgeaaDoor
open Go.ChangeShapes Go.WideShapes Go.ChangeAt Go.RowKit
open Sg

set_option maxHeartbeats 4000000 in
theorem rstop_any (T : Tr) (E : Es) (sq en : Int) (A LA : Option Addr) (p : List Sgm) (cap ln lc : Nat) (at_ v : Int) (w : World) (hm : p.length ≤ 1000000) (ha : -17179869184 ≤ at_ ∧ at_ ≤ 17179869184) (hr : Rd w A 4 Sgc p) :
    Calls Tryd.prog 49 #[.agg #[.int .i64 T.id, .string T.name, .int .i64 T.len, .int .i64 T.speed, .int .i64 T.accel, .int .i64 T.service, .int .i64 T.emergency, .int .i64 T.delay, .int .i64 T.cons, .int .i64 T.rate], .agg #[.int .i64 sq, .int .i64 en, .slice A p.length cap, .slice LA ln lc], .agg #[.int .i64 E.min, .int .i64 E.max, .int .i64 E.speed], .int .i64 at_, .int .i64 v] w fun e w' => e = .returned (.int .i64 (at_ + dstV v (weakV T p E.min en) T.delay)) ∧ Below w.heap.size w w' := by
  have HR := Lib.hid hr
  clear hr
  obtain ⟨dd, hdd⟩ : ∃ dd, dd = dstV v (weakV T p E.min en) T.delay := ⟨_, rfl⟩
  have HDC : Hid (∀ x, Calls Tryd.prog 79 #[.int .i64 v, .int .i64 (weakV T p E.min en), .int .i64 T.delay] x fun e w' => e = .returned (.int .i64 dd) ∧ x = w') := fun x => by rw [hdd]; exact rdist_any v _ _ (eff_hi _ _) x
  have hw2 := IntWalk.i64_in (at_ + dd) (by have := dstV_bd v (weakV T p E.min en) T.delay; omega)
  rw [← hdd]
  clear hdd
  obtain ⟨w1, hw⟩ : ∃ w1, w1 = ((w.alloc (.cells #[.int .i64 T.id, .string T.name, .int .i64 T.len, .int .i64 T.speed, .int .i64 T.accel, .int .i64 T.service, .int .i64 T.emergency, .int .i64 T.delay, .int .i64 T.cons, .int .i64 T.rate] 23)).alloc (.cells #[.int .i64 sq, .int .i64 en, .slice A p.length cap, .slice LA ln lc] 29)).alloc (.cells #[.int .i64 E.min, .int .i64 E.max, .int .i64 E.speed] 25) := ⟨_, rfl⟩
  have HE0 : Hid (Ext w w1) := by rw [hw]; exact eal (eal (eal (Ext.refl w) (.cells #[.int .i64 T.id, .string T.name, .int .i64 T.len, .int .i64 T.speed, .int .i64 T.accel, .int .i64 T.service, .int .i64 T.emergency, .int .i64 T.delay, .int .i64 T.cons, .int .i64 T.rate] 23)) (.cells #[.int .i64 sq, .int .i64 en, .slice A p.length cap, .slice LA ln lc] 29)) (.cells #[.int .i64 E.min, .int .i64 E.max, .int .i64 E.speed] 25)
  have HCT : Hid (CellsAt w1 w.heap.size [.int .i64 T.id, .string T.name, .int .i64 T.len, .int .i64 T.speed, .int .i64 T.accel, .int .i64 T.service, .int .i64 T.emergency, .int .i64 T.delay, .int .i64 T.cons, .int .i64 T.rate]) := by rw [hw]; exact ((CellsAt.new (w := w) (cs := #[.int .i64 T.id, .string T.name, .int .i64 T.len, .int .i64 T.speed, .int .i64 T.accel, .int .i64 T.service, .int .i64 T.emergency, .int .i64 T.delay, .int .i64 T.cons, .int .i64 T.rate]) (t := 23) rfl).alloc _).alloc _
  have HCA : Hid (CellsAt w1 (w.heap.size + 1) [.int .i64 sq, .int .i64 en, .slice A p.length cap, .slice LA ln lc]) := by rw [hw]; exact (CellsAt.new (w := w.alloc (.cells #[.int .i64 T.id, .string T.name, .int .i64 T.len, .int .i64 T.speed, .int .i64 T.accel, .int .i64 T.service, .int .i64 T.emergency, .int .i64 T.delay, .int .i64 T.cons, .int .i64 T.rate] 23)) (cs := #[.int .i64 sq, .int .i64 en, .slice A p.length cap, .slice LA ln lc]) (t := 29) (by simp)).alloc _
  have HCE : Hid (CellsAt w1 (w.heap.size + 1 + 1) [.int .i64 E.min, .int .i64 E.max, .int .i64 E.speed]) := by rw [hw]; exact CellsAt.new (by simp)
  go_enter Tryd.func49, Tryd.ntmps49
  go_upto_region 1 with (fail)
  rw [← hw]
  clear hw
  have t0 := HCT.out.2 0 _ rfl
  have t1 := HCT.out.2 1 _ rfl
  have t2 := HCT.out.2 2 _ rfl
  have t3 := HCT.out.2 3 _ rfl
  have t4 := HCT.out.2 4 _ rfl
  have t5 := HCT.out.2 5 _ rfl
  have t6 := HCT.out.2 6 _ rfl
  have t7 := HCT.out.2 7 _ rfl
  have t8 := HCT.out.2 8 _ rfl
  have t9 := HCT.out.2 9 _ rfl
  have zt := HCT.out.1
  have a0 := HCA.out.2 0 _ rfl
  have a1 := HCA.out.2 1 _ rfl
  have a2 := HCA.out.2 2 _ rfl
  have a3 := HCA.out.2 3 _ rfl
  have za := HCA.out.1
  have e0 := HCE.out.2 0 _ rfl
  have e1 := HCE.out.2 1 _ rfl
  have e2 := HCE.out.2 2 _ rfl
  have ze := HCE.out.1
  refine wp_region_after (by kernel_rfl) (by kernel_rfl) ?_
  repeat (first | go_big_quiet_step ((first
    | (go_at_call 80; exact after_call _ (rweak_any T A p cap E.min en _ hm (HR.out.keep (etr HE0.out (After.is _)))))
    | (go_at_call 79; exact after_same _ (HDC.out _)))))
  refine wpQuiet_nil ?_
  rintro _ ⟨y, rfl⟩
  go_wp2
  go_ret
  exact ⟨rfl, etr HE0.out y.is⟩

set_option maxHeartbeats 4000000 in
theorem rsafe_any (T : Tr) (E : Es) (sq en : Int) (A LA : Option Addr) (p : List Sgm) (cap ln lc : Nat) (w : World) (hm : p.length ≤ 1000000) (hB : SupB T E en) (hr : Rd w A 4 Sgc p) :
    Calls Tryd.prog 19 #[.agg #[.int .i64 T.id, .string T.name, .int .i64 T.len, .int .i64 T.speed, .int .i64 T.accel, .int .i64 T.service, .int .i64 T.emergency, .int .i64 T.delay, .int .i64 T.cons, .int .i64 T.rate], .agg #[.int .i64 sq, .int .i64 en, .slice A p.length cap, .slice LA ln lc], .agg #[.int .i64 E.min, .int .i64 E.max, .int .i64 E.speed]] w fun e w' => e = .returned (.bool (safeB T p E en)) ∧ Below w.heap.size w w' := by
  have HR := Lib.hid hr
  clear hr
  have hdum : True := trivial
  obtain ⟨dd, hdd⟩ : ∃ dd, dd = dstV (E.speed) (weakV T p E.min en) T.delay := ⟨_, rfl⟩
  have HDC : Hid (∀ x, Rd x A 4 Sgc p → Calls Tryd.prog 49 #[.agg #[.int .i64 T.id, .string T.name, .int .i64 T.len, .int .i64 T.speed, .int .i64 T.accel, .int .i64 T.service, .int .i64 T.emergency, .int .i64 T.delay, .int .i64 T.cons, .int .i64 T.rate], .agg #[.int .i64 sq, .int .i64 en, .slice A p.length cap, .slice LA ln lc], .agg #[.int .i64 E.min, .int .i64 E.max, .int .i64 E.speed], .int .i64 (E.max), .int .i64 (E.speed)] x fun e w' => e = .returned (.int .i64 (E.max + dd)) ∧ Below x.heap.size x w') := fun x hx => by rw [hdd]; exact rstop_any T E sq en A LA p cap ln lc _ _ x hm (by have := hB.max; omega) hx
  obtain ⟨w1, hw⟩ : ∃ w1, w1 = ((w.alloc (.cells #[.int .i64 T.id, .string T.name, .int .i64 T.len, .int .i64 T.speed, .int .i64 T.accel, .int .i64 T.service, .int .i64 T.emergency, .int .i64 T.delay, .int .i64 T.cons, .int .i64 T.rate] 23)).alloc (.cells #[.int .i64 sq, .int .i64 en, .slice A p.length cap, .slice LA ln lc] 29)).alloc (.cells #[.int .i64 E.min, .int .i64 E.max, .int .i64 E.speed] 25) := ⟨_, rfl⟩
  have HE0 : Hid (Ext w w1) := by rw [hw]; exact eal (eal (eal (Ext.refl w) (.cells #[.int .i64 T.id, .string T.name, .int .i64 T.len, .int .i64 T.speed, .int .i64 T.accel, .int .i64 T.service, .int .i64 T.emergency, .int .i64 T.delay, .int .i64 T.cons, .int .i64 T.rate] 23)) (.cells #[.int .i64 sq, .int .i64 en, .slice A p.length cap, .slice LA ln lc] 29)) (.cells #[.int .i64 E.min, .int .i64 E.max, .int .i64 E.speed] 25)
  have HCT : Hid (CellsAt w1 w.heap.size [.int .i64 T.id, .string T.name, .int .i64 T.len, .int .i64 T.speed, .int .i64 T.accel, .int .i64 T.service, .int .i64 T.emergency, .int .i64 T.delay, .int .i64 T.cons, .int .i64 T.rate]) := by rw [hw]; exact ((CellsAt.new (w := w) (cs := #[.int .i64 T.id, .string T.name, .int .i64 T.len, .int .i64 T.speed, .int .i64 T.accel, .int .i64 T.service, .int .i64 T.emergency, .int .i64 T.delay, .int .i64 T.cons, .int .i64 T.rate]) (t := 23) rfl).alloc _).alloc _
  have HCA : Hid (CellsAt w1 (w.heap.size + 1) [.int .i64 sq, .int .i64 en, .slice A p.length cap, .slice LA ln lc]) := by rw [hw]; exact (CellsAt.new (w := w.alloc (.cells #[.int .i64 T.id, .string T.name, .int .i64 T.len, .int .i64 T.speed, .int .i64 T.accel, .int .i64 T.service, .int .i64 T.emergency, .int .i64 T.delay, .int .i64 T.cons, .int .i64 T.rate] 23)) (cs := #[.int .i64 sq, .int .i64 en, .slice A p.length cap, .slice LA ln lc]) (t := 29) (by simp)).alloc _
  have HCE : Hid (CellsAt w1 (w.heap.size + 1 + 1) [.int .i64 E.min, .int .i64 E.max, .int .i64 E.speed]) := by rw [hw]; exact CellsAt.new (by simp)
  cases hb : reachB p E en
  · have HE : Hid (safeB T p E en = false) := safe_no hb
    have HB0 : Hid (∀ x, Ext w1 x → Calls Tryd.prog 48 #[.agg #[.int .i64 sq, .int .i64 en, .slice A p.length cap, .slice LA ln lc], .agg #[.int .i64 E.min, .int .i64 E.max, .int .i64 E.speed]] x fun e w' => e = .returned (.bool false) ∧ Below x.heap.size x w') := fun x hx => by rw [← hb]; exact rreaches_any E sq en A LA p cap ln lc x hm (HR.out.keep (etr HE0.out hx))
    clear hb hdd
    go_enter Tryd.func19, Tryd.ntmps19
    go_upto_region 1 with (fail)
    rw [← hw]
    clear hw
    have t0 := HCT.out.2 0 _ rfl
    have t1 := HCT.out.2 1 _ rfl
    have t2 := HCT.out.2 2 _ rfl
    have t3 := HCT.out.2 3 _ rfl
    have t4 := HCT.out.2 4 _ rfl
    have t5 := HCT.out.2 5 _ rfl
    have t6 := HCT.out.2 6 _ rfl
    have t7 := HCT.out.2 7 _ rfl
    have t8 := HCT.out.2 8 _ rfl
    have t9 := HCT.out.2 9 _ rfl
    have zt := HCT.out.1
    have a0 := HCA.out.2 0 _ rfl
    have a1 := HCA.out.2 1 _ rfl
    have a2 := HCA.out.2 2 _ rfl
    have a3 := HCA.out.2 3 _ rfl
    have za := HCA.out.1
    have e0 := HCE.out.2 0 _ rfl
    have e1 := HCE.out.2 1 _ rfl
    have e2 := HCE.out.2 2 _ rfl
    have ze := HCE.out.1
    go_wp2_with fail
    refine wp_region_after (by kernel_rfl) (by kernel_rfl) ?_
    repeat (first | go_big_quiet_step ((go_at_call 48; exact after_call _ (HB0.out _ (After.is _)))))
    refine wpQuiet_nil ?_
    rintro _ ⟨y, rfl⟩
    go_wp2
    go_ret
    exact ⟨ret_bool HE.out.symm, etr HE0.out y.is⟩
  · have HE : Hid (safeB T p E en = decide (E.max + dd ≤ en)) := by show _ = _; rw [safe_is hb, hdd]; unfold haltB; rw [Int.add_zero]
    have HB0 : Hid (∀ x, Ext w1 x → Calls Tryd.prog 48 #[.agg #[.int .i64 sq, .int .i64 en, .slice A p.length cap, .slice LA ln lc], .agg #[.int .i64 E.min, .int .i64 E.max, .int .i64 E.speed]] x fun e w' => e = .returned (.bool true) ∧ Below x.heap.size x w') := fun x hx => by rw [← hb]; exact rreaches_any E sq en A LA p cap ln lc x hm (HR.out.keep (etr HE0.out hx))
    clear hb hdd
    go_enter Tryd.func19, Tryd.ntmps19
    go_upto_region 1 with (fail)
    rw [← hw]
    clear hw
    have t0 := HCT.out.2 0 _ rfl
    have t1 := HCT.out.2 1 _ rfl
    have t2 := HCT.out.2 2 _ rfl
    have t3 := HCT.out.2 3 _ rfl
    have t4 := HCT.out.2 4 _ rfl
    have t5 := HCT.out.2 5 _ rfl
    have t6 := HCT.out.2 6 _ rfl
    have t7 := HCT.out.2 7 _ rfl
    have t8 := HCT.out.2 8 _ rfl
    have t9 := HCT.out.2 9 _ rfl
    have zt := HCT.out.1
    have a0 := HCA.out.2 0 _ rfl
    have a1 := HCA.out.2 1 _ rfl
    have a2 := HCA.out.2 2 _ rfl
    have a3 := HCA.out.2 3 _ rfl
    have za := HCA.out.1
    have e0 := HCE.out.2 0 _ rfl
    have e1 := HCE.out.2 1 _ rfl
    have e2 := HCE.out.2 2 _ rfl
    have ze := HCE.out.1
    go_wp2_with fail
    refine wp_region_after (by kernel_rfl) (by kernel_rfl) ?_
    repeat (first | go_big_quiet_step ((first
      | (go_at_call 48; exact after_call _ (HB0.out _ (After.is _)))
      | (go_at_call 49; exact after_call _ (HDC.out _ (HR.out.keep (etr HE0.out (After.is _))))))))
    refine wpQuiet_nil ?_
    rintro _ ⟨y, rfl⟩
    go_wp2
    go_ret
    exact ⟨ret_bool HE.out.symm, etr HE0.out y.is⟩

set_option maxHeartbeats 4000000 in
theorem rahead_any (T : Tr) (E : Es) (sq en : Int) (A LA : Option Addr) (p : List Sgm) (cap ln lc : Nat) (w : World) (hm : p.length ≤ 1000000) (hB : SupB T E en) (hr : Rd w A 4 Sgc p) :
    Calls Tryd.prog 77 #[.agg #[.int .i64 T.id, .string T.name, .int .i64 T.len, .int .i64 T.speed, .int .i64 T.accel, .int .i64 T.service, .int .i64 T.emergency, .int .i64 T.delay, .int .i64 T.cons, .int .i64 T.rate], .agg #[.int .i64 sq, .int .i64 en, .slice A p.length cap, .slice LA ln lc], .agg #[.int .i64 E.min, .int .i64 E.max, .int .i64 E.speed]] w fun e w' => e = .returned (.bool (aheadB T p E en)) ∧ Below w.heap.size w w' := by
  have HR := Lib.hid hr
  clear hr
  have hsw := IntWalk.i64_in (E.speed + T.accel) (by have := hB.spd; have := hB.acc; omega)
  have hsw2 := IntWalk.i64_in (E.max + (E.speed + T.accel)) (by have := hB.spd; have := hB.acc; have := hB.max; omega)
  obtain ⟨dd, hdd⟩ : ∃ dd, dd = dstV (E.speed + T.accel) (weakV T p E.min en) T.delay := ⟨_, rfl⟩
  have HDC : Hid (∀ x, Rd x A 4 Sgc p → Calls Tryd.prog 49 #[.agg #[.int .i64 T.id, .string T.name, .int .i64 T.len, .int .i64 T.speed, .int .i64 T.accel, .int .i64 T.service, .int .i64 T.emergency, .int .i64 T.delay, .int .i64 T.cons, .int .i64 T.rate], .agg #[.int .i64 sq, .int .i64 en, .slice A p.length cap, .slice LA ln lc], .agg #[.int .i64 E.min, .int .i64 E.max, .int .i64 E.speed], .int .i64 (E.max + (E.speed + T.accel)), .int .i64 (E.speed + T.accel)] x fun e w' => e = .returned (.int .i64 (E.max + (E.speed + T.accel) + dd)) ∧ Below x.heap.size x w') := fun x hx => by rw [hdd]; exact rstop_any T E sq en A LA p cap ln lc _ _ x hm (by have := hB.spd; have := hB.acc; have := hB.max; omega) hx
  obtain ⟨w1, hw⟩ : ∃ w1, w1 = ((w.alloc (.cells #[.int .i64 T.id, .string T.name, .int .i64 T.len, .int .i64 T.speed, .int .i64 T.accel, .int .i64 T.service, .int .i64 T.emergency, .int .i64 T.delay, .int .i64 T.cons, .int .i64 T.rate] 23)).alloc (.cells #[.int .i64 sq, .int .i64 en, .slice A p.length cap, .slice LA ln lc] 29)).alloc (.cells #[.int .i64 E.min, .int .i64 E.max, .int .i64 E.speed] 25) := ⟨_, rfl⟩
  have HE0 : Hid (Ext w w1) := by rw [hw]; exact eal (eal (eal (Ext.refl w) (.cells #[.int .i64 T.id, .string T.name, .int .i64 T.len, .int .i64 T.speed, .int .i64 T.accel, .int .i64 T.service, .int .i64 T.emergency, .int .i64 T.delay, .int .i64 T.cons, .int .i64 T.rate] 23)) (.cells #[.int .i64 sq, .int .i64 en, .slice A p.length cap, .slice LA ln lc] 29)) (.cells #[.int .i64 E.min, .int .i64 E.max, .int .i64 E.speed] 25)
  have HCT : Hid (CellsAt w1 w.heap.size [.int .i64 T.id, .string T.name, .int .i64 T.len, .int .i64 T.speed, .int .i64 T.accel, .int .i64 T.service, .int .i64 T.emergency, .int .i64 T.delay, .int .i64 T.cons, .int .i64 T.rate]) := by rw [hw]; exact ((CellsAt.new (w := w) (cs := #[.int .i64 T.id, .string T.name, .int .i64 T.len, .int .i64 T.speed, .int .i64 T.accel, .int .i64 T.service, .int .i64 T.emergency, .int .i64 T.delay, .int .i64 T.cons, .int .i64 T.rate]) (t := 23) rfl).alloc _).alloc _
  have HCA : Hid (CellsAt w1 (w.heap.size + 1) [.int .i64 sq, .int .i64 en, .slice A p.length cap, .slice LA ln lc]) := by rw [hw]; exact (CellsAt.new (w := w.alloc (.cells #[.int .i64 T.id, .string T.name, .int .i64 T.len, .int .i64 T.speed, .int .i64 T.accel, .int .i64 T.service, .int .i64 T.emergency, .int .i64 T.delay, .int .i64 T.cons, .int .i64 T.rate] 23)) (cs := #[.int .i64 sq, .int .i64 en, .slice A p.length cap, .slice LA ln lc]) (t := 29) (by simp)).alloc _
  have HCE : Hid (CellsAt w1 (w.heap.size + 1 + 1) [.int .i64 E.min, .int .i64 E.max, .int .i64 E.speed]) := by rw [hw]; exact CellsAt.new (by simp)
  cases hb : reachB p E en
  · have HE : Hid (aheadB T p E en = false) := ahead_no hb
    have HB0 : Hid (∀ x, Ext w1 x → Calls Tryd.prog 48 #[.agg #[.int .i64 sq, .int .i64 en, .slice A p.length cap, .slice LA ln lc], .agg #[.int .i64 E.min, .int .i64 E.max, .int .i64 E.speed]] x fun e w' => e = .returned (.bool false) ∧ Below x.heap.size x w') := fun x hx => by rw [← hb]; exact rreaches_any E sq en A LA p cap ln lc x hm (HR.out.keep (etr HE0.out hx))
    clear hb hdd
    go_enter Tryd.func77, Tryd.ntmps77
    go_upto_region 1 with (fail)
    rw [← hw]
    clear hw
    have t0 := HCT.out.2 0 _ rfl
    have t1 := HCT.out.2 1 _ rfl
    have t2 := HCT.out.2 2 _ rfl
    have t3 := HCT.out.2 3 _ rfl
    have t4 := HCT.out.2 4 _ rfl
    have t5 := HCT.out.2 5 _ rfl
    have t6 := HCT.out.2 6 _ rfl
    have t7 := HCT.out.2 7 _ rfl
    have t8 := HCT.out.2 8 _ rfl
    have t9 := HCT.out.2 9 _ rfl
    have zt := HCT.out.1
    have a0 := HCA.out.2 0 _ rfl
    have a1 := HCA.out.2 1 _ rfl
    have a2 := HCA.out.2 2 _ rfl
    have a3 := HCA.out.2 3 _ rfl
    have za := HCA.out.1
    have e0 := HCE.out.2 0 _ rfl
    have e1 := HCE.out.2 1 _ rfl
    have e2 := HCE.out.2 2 _ rfl
    have ze := HCE.out.1
    go_wp2_with fail
    refine wp_region_after (by kernel_rfl) (by kernel_rfl) ?_
    repeat (first | go_big_quiet_step ((go_at_call 48; exact after_call _ (HB0.out _ (After.is _)))))
    refine wpQuiet_nil ?_
    rintro _ ⟨y, rfl⟩
    go_wp2
    go_ret
    exact ⟨ret_bool HE.out.symm, etr HE0.out y.is⟩
  · have HE : Hid (aheadB T p E en = decide (E.max + (E.speed + T.accel) + dd ≤ en)) := by show _ = _; rw [ahead_is hb, hdd]; rfl
    have HB0 : Hid (∀ x, Ext w1 x → Calls Tryd.prog 48 #[.agg #[.int .i64 sq, .int .i64 en, .slice A p.length cap, .slice LA ln lc], .agg #[.int .i64 E.min, .int .i64 E.max, .int .i64 E.speed]] x fun e w' => e = .returned (.bool true) ∧ Below x.heap.size x w') := fun x hx => by rw [← hb]; exact rreaches_any E sq en A LA p cap ln lc x hm (HR.out.keep (etr HE0.out hx))
    clear hb hdd
    go_enter Tryd.func77, Tryd.ntmps77
    go_upto_region 1 with (fail)
    rw [← hw]
    clear hw
    have t0 := HCT.out.2 0 _ rfl
    have t1 := HCT.out.2 1 _ rfl
    have t2 := HCT.out.2 2 _ rfl
    have t3 := HCT.out.2 3 _ rfl
    have t4 := HCT.out.2 4 _ rfl
    have t5 := HCT.out.2 5 _ rfl
    have t6 := HCT.out.2 6 _ rfl
    have t7 := HCT.out.2 7 _ rfl
    have t8 := HCT.out.2 8 _ rfl
    have t9 := HCT.out.2 9 _ rfl
    have zt := HCT.out.1
    have a0 := HCA.out.2 0 _ rfl
    have a1 := HCA.out.2 1 _ rfl
    have a2 := HCA.out.2 2 _ rfl
    have a3 := HCA.out.2 3 _ rfl
    have za := HCA.out.1
    have e0 := HCE.out.2 0 _ rfl
    have e1 := HCE.out.2 1 _ rfl
    have e2 := HCE.out.2 2 _ rfl
    have ze := HCE.out.1
    go_wp2_with fail
    refine wp_region_after (by kernel_rfl) (by kernel_rfl) ?_
    repeat (first | go_big_quiet_step ((first
      | (go_at_call 48; exact after_call _ (HB0.out _ (After.is _)))
      | (go_at_call 49; exact after_call _ (HDC.out _ (HR.out.keep (etr HE0.out (After.is _))))))))
    refine wpQuiet_nil ?_
    rintro _ ⟨y, rfl⟩
    go_wp2
    go_ret
    exact ⟨ret_bool HE.out.symm, etr HE0.out y.is⟩

end Go.Proofs.YtbgmknkmfhpgeaaDoor
