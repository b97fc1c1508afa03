/- Walks of package supervise and of its reference: Weakest, reaches, stops, Safe, Ahead. -/
import Derived.Test.YtbgmknkmfhpgeaaDoorWSpds
import Derived.Test.YtbgmknkmfhpgeaaDoorWTrain
import Derived.Test.YtbgmknkmfhpgeaaDoorOpenT
import Derived.Test.YtbgmknkmfhpgeaaDoorPAll
import Derived.Deep.Cut
set_option linter.unusedVariables false
set_option linter.unusedSimpArgs false
namespace Go.Proofs.YtbgmknkmfhpgeaaDoor
open Go.ChangeShapes Go.WideShapes Go.ChangeAt Go.RowKit
open Sg

theorem eff_hi (d g : Int) : effV d g ≤ 9223372036854775807 := by have := effV_bd d g; omega

set_option maxHeartbeats 2000000 in
theorem weak_any (T : Tr) (A : Option Addr) (p : List Sgm) (cap : Nat) (f t : Int) (w : World) (hm : p.length ≤ 1000000) (hr : Rd w A 4 Sgc p) :
    Calls Tryd.prog 131 #[.agg #[.int .i64 T.id, .string T.name, .int .i64 T.len, .int .i64 T.speed, .int .i64 T.accel, .int .i64 T.service, .int .i64 T.emergency, .int .i64 T.delay, .int .i64 T.cons, .int .i64 T.rate], .slice A p.length cap, .int .i64 f, .int .i64 t] w fun e w' => e = .returned (.int .i64 (weakV T p f t)) ∧ Below w.heap.size w w' := by
  have HR := Lib.hid hr
  have HM : Hid (p.length ≤ maxLen) := by show _ ≤ _; unfold maxLen; omega
  clear hr
  have HE0 := Lib.hid (eal (Ext.refl w) (.cells #[.int .i64 T.id, .string T.name, .int .i64 T.len, .int .i64 T.speed, .int .i64 T.accel, .int .i64 T.service, .int .i64 T.emergency, .int .i64 T.delay, .int .i64 T.cons, .int .i64 T.rate] 23))
  have HE : Hid (weakV T p f t = effV T.emergency (steepV p f t)) := rfl
  go_enter Tryd.func131, Tryd.ntmps131
  go_wp2_with fail
  refine wp_region_after (by kernel_rfl) (by kernel_rfl) ?_
  repeat (first | go_big_quiet_step ((first
    | (go_at_call 105; exact after_call _ (steepest_any A p cap f t _ HM.out (HR.out.keep (etr HE0.out (After.is _)))))
    | (go_at_call 104; exact after_same _ (eff_any _ _ _)))))
  refine wpQuiet_nil ?_
  rintro _ ⟨y, rfl⟩
  go_wp2
  go_ret
  exact ⟨ret_int HE.out.symm, etr HE0.out y.is⟩

set_option maxHeartbeats 2000000 in
theorem rweak_any (T : Tr) (A : Option Addr) (p : List Sgm) (cap : Nat) (f t : Int) (w : World) (hm : p.length ≤ 1000000) (hr : Rd w A 4 Sgc p) :
    Calls Tryd.prog 80 #[.agg #[.int .i64 T.id, .string T.name, .int .i64 T.len, .int .i64 T.speed, .int .i64 T.accel, .int .i64 T.service, .int .i64 T.emergency, .int .i64 T.delay, .int .i64 T.cons, .int .i64 T.rate], .slice A p.length cap, .int .i64 f, .int .i64 t] w fun e w' => e = .returned (.int .i64 (weakV T p f t)) ∧ Below w.heap.size w w' := by
  have HR := Lib.hid hr
  have HM : Hid (p.length ≤ maxLen) := by show _ ≤ _; unfold maxLen; omega
  clear hr
  have HE0 := Lib.hid (eal (Ext.refl w) (.cells #[.int .i64 T.id, .string T.name, .int .i64 T.len, .int .i64 T.speed, .int .i64 T.accel, .int .i64 T.service, .int .i64 T.emergency, .int .i64 T.delay, .int .i64 T.cons, .int .i64 T.rate] 23))
  have HE : Hid (weakV T p f t = effV T.emergency (steepV p f t)) := rfl
  go_enter Tryd.func80, Tryd.ntmps80
  go_wp2_with fail
  refine wp_region_after (by kernel_rfl) (by kernel_rfl) ?_
  repeat (first | go_big_quiet_step ((first
    | (go_at_call 111; exact after_call _ (rsteep_any A p cap f t _ hm (HR.out.keep (etr HE0.out (After.is _)))))
    | (go_at_call 110; exact after_same _ (reff_any _ _ _)))))
  refine wpQuiet_nil ?_
  rintro _ ⟨y, rfl⟩
  go_wp2
  go_ret
  exact ⟨ret_int HE.out.symm, etr HE0.out y.is⟩

theorem reach_false1 {p : List Sgm} {e : Es} {en : Int} (h : validB p = false) : reachB p e en = false := by unfold reachB; rw [h]; rfl
theorem reach_empty {p : List Sgm} {e : Es} {en : Int} (h : p.length = 0) : reachB p e en = false := by
  cases hb : reachB p e en
  · rfl
  · obtain ⟨_, h2, _⟩ := reachB_true.1 hb; omega
theorem reach_is {p : List Sgm} {e : Es} {en : Int} (hv : validB p = true) (h0 : 0 < p.length) : reachB p e en = (decide (headF p ≤ e.min) && decide (en ≤ lastT p)) := by
  unfold reachB; rw [hv, decide_eq_true h0]; rfl

set_option maxHeartbeats 4000000 in
theorem reaches_any (T : Tr) (E : Es) (sq en : Int) (A LA : Option Addr) (p : List Sgm) (cap ln lc : Nat) (w : World) (hm : p.length ≤ 1000000) (hr : Rd w A 4 Sgc p) :
    Calls Tryd.prog 118 #[.agg #[.int .i64 T.id, .string T.name, .int .i64 T.len, .int .i64 T.speed, .int .i64 T.accel, .int .i64 T.service, .int .i64 T.emergency, .int .i64 T.delay, .int .i64 T.cons, .int .i64 T.rate, .int .i64 sq, .int .i64 en, .slice A p.length cap, .slice LA ln lc, .int .i64 E.min, .int .i64 E.max, .int .i64 E.speed]] w fun e w' => e = .returned (.bool (reachB p E en)) ∧ Below w.heap.size w w' := by
  have HR := Lib.hid hr
  have HM : Hid (p.length ≤ maxLen) := by show _ ≤ _; unfold maxLen; omega
  clear hr
  obtain ⟨w1, hw1⟩ : ∃ w1, w1 = w.alloc (.cells #[.int .i64 T.id, .string T.name, .int .i64 T.len, .int .i64 T.speed, .int .i64 T.accel, .int .i64 T.service, .int .i64 T.emergency, .int .i64 T.delay, .int .i64 T.cons, .int .i64 T.rate, .int .i64 sq, .int .i64 en, .slice A p.length cap, .slice LA ln lc, .int .i64 E.min, .int .i64 E.max, .int .i64 E.speed] 138) := ⟨_, rfl⟩
  have HE0 : Hid (Ext w w1) := by rw [hw1]; exact eal (Ext.refl w) _
  have HVC : Hid (∀ x, Ext w1 x → Calls Tryd.prog 103 #[.slice A p.length cap] x fun e w' => e = .returned (.bool (validB p)) ∧ Below x.heap.size x w') := fun x hx => valid_any A p cap x HM.out (HR.out.keep (etr HE0.out hx))
  have HCB0 : Hid (CellsAt w1 (w.heap.size) [.int .i64 T.id, .string T.name, .int .i64 T.len, .int .i64 T.speed, .int .i64 T.accel, .int .i64 T.service, .int .i64 T.emergency, .int .i64 T.delay, .int .i64 T.cons, .int .i64 T.rate, .int .i64 sq, .int .i64 en, .slice A p.length cap, .slice LA ln lc, .int .i64 E.min, .int .i64 E.max, .int .i64 E.speed]) := by rw [hw1]; exact CellsAt.new rfl
  have f12 := HCB0.out.2 12 _ rfl
  have f11 := HCB0.out.2 11 _ rfl
  have f14 := HCB0.out.2 14 _ rfl
  have z0 := HCB0.out.1
  cases hv : validB p
  · have HE : Hid (reachB p E en = false) := reach_false1 hv
    rw [hv] at HVC
    clear hv
    go_enter Tryd.func118, Tryd.ntmps118
    go_upto_region 1 with (fail)
    rw [← hw1]
    clear hw1
    go_wp2_with fail
    refine wp_region_after (by kernel_rfl) (by kernel_rfl) ?_
    repeat (first | go_big_quiet_step ((go_at_call 103; exact after_call _ (HVC.out _ (After.is _)))))
    refine wpQuiet_nil ?_
    rintro _ ⟨y, rfl⟩
    go_wp2
    go_ret
    exact ⟨ret_bool HE.out.symm, etr HE0.out y.is⟩
  · by_cases h0 : p.length = 0
    · have HE : Hid (reachB p E en = false) := reach_empty h0
      rw [hv] at HVC
      clear hv
      have h0i : decide ((0 : Int) < (p.length : Int)) = false := decide_eq_false (by omega)
      have h0n : decide (0 < p.length) = false := decide_eq_false (by omega)
      clear h0
      go_enter Tryd.func118, Tryd.ntmps118
      go_upto_region 1 with (fail)
      rw [← hw1]
      clear hw1
      go_wp2_with fail
      refine wp_region_after (by kernel_rfl) (by kernel_rfl) ?_
      repeat (first | go_big_quiet_step ((go_at_call 103; exact after_call _ (HVC.out _ (After.is _)))))
      refine wpQuiet_nil ?_
      rintro _ ⟨y, rfl⟩
      go_wp2
      go_ret
      exact ⟨ret_bool HE.out.symm, etr HE0.out y.is⟩
    · have hp0 : 0 < p.length := by omega
      have HE : Hid (reachB p E en = (decide (headF p ≤ E.min) && decide (en ≤ lastT p))) := reach_is hv hp0
      rw [hv] at HVC
      obtain ⟨b, off, s0, rfl, hs0, hbs, c0, c1', c2', c3'⟩ := rd_seg HR.out HE0.out (show 0 < p.length by omega)
      obtain ⟨b2, off2, s1, hA2, hs1, _, l0, l1, l2, l3⟩ := rd_seg HR.out HE0.out (show p.length - 1 < p.length by omega)
      simp only [Option.some.injEq, Addr.mk.injEq] at hA2
      obtain ⟨rfl, rfl, -⟩ := hA2
      have hh : headF p = s0.from_ := by unfold headF; simp [List.getD_eq_getElem?_getD, hs0]
      have hl : lastT p = s1.to_ := by unfold lastT; simp [List.getD_eq_getElem?_getD, hs1]
      rw [hh, hl] at HE
      have c00 : w1.cell? ⟨b, off, none⟩ = some (.int .i64 s0.from_) := by simpa using c0
      have hp0d : decide (0 < p.length) = true := decide_eq_true hp0
      have h0i : decide ((0 : Int) < (p.length : Int)) = true := decide_eq_true (by omega)
      have hk1 : (0 : Int) ≤ (p.length : Int) - 1 := by omega
      have hk2 : (p.length : Int) - 1 < (p.length : Int) := by omega
      have hk3 : ((p.length : Int) - 1).toNat = p.length - 1 := by omega
      have hkw := IntWalk.i64_in ((p.length : Int) - 1) (by omega)
      clear hh hl hs0 hs1 hv c0 c1' c2' c3' l0 l2 l3
      cases q1 : decide (s0.from_ ≤ E.min)
      all_goals
        rw [q1] at HE
        go_enter Tryd.func118, Tryd.ntmps118
        go_upto_region 1 with (fail)
        rw [← hw1]
        clear hw1
        go_wp2_with fail
        refine wp_region_after (by kernel_rfl) (by kernel_rfl) ?_
        repeat (first | go_big_quiet_step ((go_at_call 103; exact after_call _ (HVC.out _ (After.is _)))))
        refine wpQuiet_nil ?_
        rintro _ ⟨y, rfl⟩
        go_wp2
        go_ret
        exact ⟨ret_bool (by rw [HE.out]; simp), etr HE0.out y.is⟩

set_option maxHeartbeats 4000000 in
theorem rreaches_any (E : Es) (sq en : Int) (A LA : Option Addr) (p : List Sgm) (cap ln lc : Nat) (w : World) (hm : p.length ≤ 1000000) (hr : Rd w A 4 Sgc p) :
    Calls Tryd.prog 48 #[.agg #[.int .i64 sq, .int .i64 en, .slice A p.length cap, .slice LA ln lc], .agg #[.int .i64 E.min, .int .i64 E.max, .int .i64 E.speed]] w fun e w' => e = .returned (.bool (reachB p E en)) ∧ Below w.heap.size w w' := by
  have HR := Lib.hid hr
  have HM : Hid (p.length ≤ maxLen) := by show _ ≤ _; unfold maxLen; omega
  clear hr
  obtain ⟨w1, hw1⟩ : ∃ w1, w1 = (w.alloc (.cells #[.int .i64 sq, .int .i64 en, .slice A p.length cap, .slice LA ln lc] 29)).alloc (.cells #[.int .i64 E.min, .int .i64 E.max, .int .i64 E.speed] 25) := ⟨_, rfl⟩
  have HE0 : Hid (Ext w w1) := by rw [hw1]; exact eal (eal (Ext.refl w) _) _
  have HVC : Hid (∀ x, Ext w1 x → Calls Tryd.prog 67 #[.slice A p.length cap] x fun e w' => e = .returned (.bool (validB p)) ∧ Below x.heap.size x w') := fun x hx => rvalid_any A p cap x HM.out (HR.out.keep (etr HE0.out hx))
  have HCB0 : Hid (CellsAt w1 (w.heap.size) [.int .i64 sq, .int .i64 en, .slice A p.length cap, .slice LA ln lc]) := by rw [hw1]; exact (CellsAt.new (w := w) (cs := #[.int .i64 sq, .int .i64 en, .slice A p.length cap, .slice LA ln lc]) (t := 29) rfl).alloc _
  have f2 := HCB0.out.2 2 _ rfl
  have f1 := HCB0.out.2 1 _ rfl
  have z0 := HCB0.out.1
  have HCB1 : Hid (CellsAt w1 (w.heap.size + 1) [.int .i64 E.min, .int .i64 E.max, .int .i64 E.speed]) := by rw [hw1]; exact CellsAt.new (by simp)
  have g0 := HCB1.out.2 0 _ rfl
  have z1 := HCB1.out.1
  cases hv : validB p
  · have HE : Hid (reachB p E en = false) := reach_false1 hv
    rw [hv] at HVC
    clear hv
    go_enter Tryd.func48, Tryd.ntmps48
    go_upto_region 1 with (fail)
    rw [← hw1]
    clear hw1
    go_wp2_with fail
    refine wp_region_after (by kernel_rfl) (by kernel_rfl) ?_
    repeat (first | go_big_quiet_step ((go_at_call 67; exact after_call _ (HVC.out _ (After.is _)))))
    refine wpQuiet_nil ?_
    rintro _ ⟨y, rfl⟩
    go_wp2
    go_ret
    exact ⟨ret_bool HE.out.symm, etr HE0.out y.is⟩
  · by_cases h0 : p.length = 0
    · have HE : Hid (reachB p E en = false) := reach_empty h0
      rw [hv] at HVC
      clear hv
      have h0i : decide ((0 : Int) < (p.length : Int)) = false := decide_eq_false (by omega)
      have h0n : decide (0 < p.length) = false := decide_eq_false (by omega)
      clear h0
      go_enter Tryd.func48, Tryd.ntmps48
      go_upto_region 1 with (fail)
      rw [← hw1]
      clear hw1
      go_wp2_with fail
      refine wp_region_after (by kernel_rfl) (by kernel_rfl) ?_
      repeat (first | go_big_quiet_step ((go_at_call 67; exact after_call _ (HVC.out _ (After.is _)))))
      refine wpQuiet_nil ?_
      rintro _ ⟨y, rfl⟩
      go_wp2
      go_ret
      exact ⟨ret_bool HE.out.symm, etr HE0.out y.is⟩
    · have hp0 : 0 < p.length := by omega
      have HE : Hid (reachB p E en = (decide (headF p ≤ E.min) && decide (en ≤ lastT p))) := reach_is hv hp0
      rw [hv] at HVC
      obtain ⟨b, off, s0, rfl, hs0, hbs, c0, c1', c2', c3'⟩ := rd_seg HR.out HE0.out (show 0 < p.length by omega)
      obtain ⟨b2, off2, s1, hA2, hs1, _, l0, l1, l2, l3⟩ := rd_seg HR.out HE0.out (show p.length - 1 < p.length by omega)
      simp only [Option.some.injEq, Addr.mk.injEq] at hA2
      obtain ⟨rfl, rfl, -⟩ := hA2
      have hh : headF p = s0.from_ := by unfold headF; simp [List.getD_eq_getElem?_getD, hs0]
      have hl : lastT p = s1.to_ := by unfold lastT; simp [List.getD_eq_getElem?_getD, hs1]
      rw [hh, hl] at HE
      have c00 : w1.cell? ⟨b, off, none⟩ = some (.int .i64 s0.from_) := by simpa using c0
      have hp0d : decide (0 < p.length) = true := decide_eq_true hp0
      have h0i : decide ((0 : Int) < (p.length : Int)) = true := decide_eq_true (by omega)
      have hk1 : (0 : Int) ≤ (p.length : Int) - 1 := by omega
      have hk2 : (p.length : Int) - 1 < (p.length : Int) := by omega
      have hk3 : ((p.length : Int) - 1).toNat = p.length - 1 := by omega
      have hkw := IntWalk.i64_in ((p.length : Int) - 1) (by omega)
      clear hh hl hs0 hs1 hv c0 c1' c2' c3' l0 l2 l3
      cases q1 : decide (s0.from_ ≤ E.min)
      all_goals
        rw [q1] at HE
        go_enter Tryd.func48, Tryd.ntmps48
        go_upto_region 1 with (fail)
        rw [← hw1]
        clear hw1
        go_wp2_with fail
        refine wp_region_after (by kernel_rfl) (by kernel_rfl) ?_
        repeat (first | go_big_quiet_step ((go_at_call 67; exact after_call _ (HVC.out _ (After.is _)))))
        refine wpQuiet_nil ?_
        rintro _ ⟨y, rfl⟩
        go_wp2
        go_ret
        exact ⟨ret_bool (by rw [HE.out]; simp), etr HE0.out y.is⟩

/-- What the walks of chapter 34 ask of numbers. -/
structure SupB (T : Tr) (E : Es) (en : Int) : Prop where
  min : -2147483648 ≤ E.min ∧ E.min ≤ 2147483648
  max : -2147483648 ≤ E.max ∧ E.max ≤ 2147483648
  spd : -2147483648 ≤ E.speed ∧ E.speed ≤ 2147483648
  en : -2147483648 ≤ en ∧ en ≤ 2147483648
  acc : 0 ≤ T.accel ∧ T.accel ≤ 2147483648
  len : 0 ≤ T.len ∧ T.len ≤ 2147483648
set_option maxHeartbeats 4000000 in
theorem stops_any (T : Tr) (E : Es) (sq en : Int) (A LA : Option Addr) (p : List Sgm) (cap ln lc : Nat) (moved u : Int) (w : World) (hm : p.length ≤ 1000000) (hB : SupB T E en) (hmv : -8589934592 ≤ moved ∧ moved ≤ 8589934592) (hr : Rd w A 4 Sgc p) :
    Calls Tryd.prog 119 #[.agg #[.int .i64 T.id, .string T.name, .int .i64 T.len, .int .i64 T.speed, .int .i64 T.accel, .int .i64 T.service, .int .i64 T.emergency, .int .i64 T.delay, .int .i64 T.cons, .int .i64 T.rate, .int .i64 sq, .int .i64 en, .slice A p.length cap, .slice LA ln lc, .int .i64 E.min, .int .i64 E.max, .int .i64 E.speed], .int .i64 moved, .int .i64 u] w fun e w' => e = .returned (.bool (haltB T p E en moved u)) ∧ Below w.heap.size w w' := by
  have HR := Lib.hid hr
  clear hr
  obtain ⟨dd, hdd⟩ : ∃ dd, dd = dstV u (weakV T p E.min en) T.delay := ⟨_, rfl⟩
  have HE : Hid (haltB T p E en moved u = decide (E.max + moved + dd ≤ en)) := by rw [hdd]; rfl
  have hw1 := IntWalk.i64_in (E.max + moved) (by have := hB.max; omega)
  have hw2 := IntWalk.i64_in (E.max + moved + dd) (by have := hB.max; have := dstV_bd u (weakV T p E.min en) T.delay; omega)
  have HDC : Hid (∀ x, Calls Tryd.prog 124 #[.int .i64 u, .int .i64 (weakV T p E.min en), .int .i64 T.delay] x fun e w' => e = .returned (.int .i64 dd) ∧ x = w') := fun x => by rw [hdd]; exact dist_any u _ _ (eff_hi _ _) x
  clear hdd
  obtain ⟨w1, hw⟩ : ∃ w1, w1 = w.alloc (.cells #[.int .i64 T.id, .string T.name, .int .i64 T.len, .int .i64 T.speed, .int .i64 T.accel, .int .i64 T.service, .int .i64 T.emergency, .int .i64 T.delay, .int .i64 T.cons, .int .i64 T.rate, .int .i64 sq, .int .i64 en, .slice A p.length cap, .slice LA ln lc, .int .i64 E.min, .int .i64 E.max, .int .i64 E.speed] 138) := ⟨_, rfl⟩
  have HE0 : Hid (Ext w w1) := by rw [hw]; exact eal (Ext.refl w) _
  have HCB : Hid (CellsAt w1 w.heap.size [.int .i64 T.id, .string T.name, .int .i64 T.len, .int .i64 T.speed, .int .i64 T.accel, .int .i64 T.service, .int .i64 T.emergency, .int .i64 T.delay, .int .i64 T.cons, .int .i64 T.rate, .int .i64 sq, .int .i64 en, .slice A p.length cap, .slice LA ln lc, .int .i64 E.min, .int .i64 E.max, .int .i64 E.speed]) := by rw [hw]; exact CellsAt.new rfl
  go_enter Tryd.func119, Tryd.ntmps119
  go_upto_region 1 with (fail)
  rw [← hw]
  clear hw
  have u0 := HCB.out.2 0 _ rfl
  have u1 := HCB.out.2 1 _ rfl
  have u2 := HCB.out.2 2 _ rfl
  have u3 := HCB.out.2 3 _ rfl
  have u4 := HCB.out.2 4 _ rfl
  have u5 := HCB.out.2 5 _ rfl
  have u6 := HCB.out.2 6 _ rfl
  have u7 := HCB.out.2 7 _ rfl
  have u8 := HCB.out.2 8 _ rfl
  have u9 := HCB.out.2 9 _ rfl
  have u11 := HCB.out.2 11 _ rfl
  have u12 := HCB.out.2 12 _ rfl
  have u14 := HCB.out.2 14 _ rfl
  have zz := HCB.out.1
  go_wp2_with fail
  refine (weak_any T A p cap E.min en _ hm (HR.out.keep HE0.out)).mono ?_
  rintro e w2 ⟨rfl, hb2⟩
  have HX2 := Lib.hid (etr HE0.out hb2)
  have HC2 := HCB.out.keep hb2
  clear hb2 u0 u1 u2 u3 u4 u5 u6 u7 u8 u9 u11 u12 u14 zz
  have u7 := HC2.2 7 _ rfl
  have u11 := HC2.2 11 _ rfl
  have u15 := HC2.2 15 _ rfl
  have zz := HC2.1
  clear HC2
  go_wp2_with fail
  refine wp_region_after (by kernel_rfl) (by kernel_rfl) ?_
  repeat (first | go_big_quiet_step ((go_at_call 124; exact after_same _ (HDC.out _))))
  refine wpQuiet_nil ?_
  rintro _ ⟨y, rfl⟩
  go_wp2
  go_ret
  exact ⟨ret_bool HE.out.symm, etr HX2.out y.is⟩
theorem safe_no {T : Tr} {p : List Sgm} {e : Es} {en : Int} (h : reachB p e en = false) : safeB T p e en = false := by unfold safeB; rw [h]; rfl
theorem safe_is {T : Tr} {p : List Sgm} {e : Es} {en : Int} (h : reachB p e en = true) : safeB T p e en = haltB T p e en 0 e.speed := by unfold safeB; rw [h]; rfl
theorem ahead_no {T : Tr} {p : List Sgm} {e : Es} {en : Int} (h : reachB p e en = false) : aheadB T p e en = false := by unfold aheadB; rw [h]; rfl
theorem ahead_is {T : Tr} {p : List Sgm} {e : Es} {en : Int} (h : reachB p e en = true) : aheadB T p e en = haltB T p e en (e.speed + T.accel) (e.speed + T.accel) := by unfold aheadB; rw [h]; rfl
set_option maxHeartbeats 4000000 in
theorem now_any (T : Tr) (E : Es) (sq en : Int) (A LA : Option Addr) (p : List Sgm) (cap ln lc : Nat) (w : World) (hm : p.length ≤ 1000000) (hB : SupB T E en) (hr : Rd w A 4 Sgc p) :
    Calls Tryd.prog 154 #[.agg #[.int .i64 T.id, .string T.name, .int .i64 T.len, .int .i64 T.speed, .int .i64 T.accel, .int .i64 T.service, .int .i64 T.emergency, .int .i64 T.delay, .int .i64 T.cons, .int .i64 T.rate, .int .i64 sq, .int .i64 en, .slice A p.length cap, .slice LA ln lc, .int .i64 E.min, .int .i64 E.max, .int .i64 E.speed]] w fun e w' => e = .returned (.bool (safeB T p E en)) ∧ Below w.heap.size w w' := by
  have HR := Lib.hid hr
  clear hr
  have HE0 := Lib.hid (eal (Ext.refl w) (.cells #[.int .i64 T.id, .string T.name, .int .i64 T.len, .int .i64 T.speed, .int .i64 T.accel, .int .i64 T.service, .int .i64 T.emergency, .int .i64 T.delay, .int .i64 T.cons, .int .i64 T.rate, .int .i64 sq, .int .i64 en, .slice A p.length cap, .slice LA ln lc, .int .i64 E.min, .int .i64 E.max, .int .i64 E.speed] 138))
  cases hb : reachB p E en
  · have HE : Hid (safeB T p E en = false) := safe_no hb
    have HB0 := Lib.hid hb
    clear hb
    go_enter Tryd.func154, Tryd.ntmps154
    go_wp2_with (go_at_call 118; refine (to_after (reaches_any T E sq en A LA p cap ln lc _ hm (HR.out.keep HE0.out))).mono ?_; rintro e w' ⟨y, rfl, rfl⟩; rw [HB0.out])
    go_ret
    exact ⟨ret_bool HE.out.symm, etr HE0.out y.is⟩
  · have HE : Hid (safeB T p E en = haltB T p E en 0 E.speed) := safe_is hb
    have HB0 := Lib.hid hb
    clear hb
    obtain ⟨w1, hw⟩ : ∃ w1, w1 = w.alloc (.cells #[.int .i64 T.id, .string T.name, .int .i64 T.len, .int .i64 T.speed, .int .i64 T.accel, .int .i64 T.service, .int .i64 T.emergency, .int .i64 T.delay, .int .i64 T.cons, .int .i64 T.rate, .int .i64 sq, .int .i64 en, .slice A p.length cap, .slice LA ln lc, .int .i64 E.min, .int .i64 E.max, .int .i64 E.speed] 138) := ⟨_, rfl⟩
    have HCB : Hid (CellsAt w1 w.heap.size [.int .i64 T.id, .string T.name, .int .i64 T.len, .int .i64 T.speed, .int .i64 T.accel, .int .i64 T.service, .int .i64 T.emergency, .int .i64 T.delay, .int .i64 T.cons, .int .i64 T.rate, .int .i64 sq, .int .i64 en, .slice A p.length cap, .slice LA ln lc, .int .i64 E.min, .int .i64 E.max, .int .i64 E.speed]) := by rw [hw]; exact CellsAt.new rfl
    rw [← hw] at HE0
    go_enter Tryd.func154, Tryd.ntmps154
    go_wp2_with fail
    rw [← hw]
    clear hw
    refine (reaches_any T E sq en A LA p cap ln lc _ hm (HR.out.keep HE0.out)).mono ?_
    rintro e w2 ⟨rfl, hb2⟩
    rw [HB0.out]
    have HX2 := Lib.hid (etr HE0.out hb2)
    have HC2 := HCB.out.keep hb2
    clear hb2
    have v0 := HC2.2 0 _ rfl
    have v1 := HC2.2 1 _ rfl
    have v2 := HC2.2 2 _ rfl
    have v3 := HC2.2 3 _ rfl
    have v4 := HC2.2 4 _ rfl
    have v5 := HC2.2 5 _ rfl
    have v6 := HC2.2 6 _ rfl
    have v7 := HC2.2 7 _ rfl
    have v8 := HC2.2 8 _ rfl
    have v9 := HC2.2 9 _ rfl
    have v10 := HC2.2 10 _ rfl
    have v11 := HC2.2 11 _ rfl
    have v12 := HC2.2 12 _ rfl
    have v13 := HC2.2 13 _ rfl
    have v14 := HC2.2 14 _ rfl
    have v15 := HC2.2 15 _ rfl
    have v16 := HC2.2 16 _ rfl
    have zz := HC2.1
    clear HC2
    go_wp2_with fail
    refine (stops_any T E sq en A LA p cap ln lc 0 E.speed _ hm hB (by omega) (HR.out.keep HX2.out)).mono ?_
    rintro e w3 ⟨rfl, hb3⟩
    have HX3 := Lib.hid (etr HX2.out hb3)
    clear hb3
    go_wp2
    go_ret
    exact ⟨ret_bool HE.out.symm, HX3.out⟩
set_option maxHeartbeats 4000000 in
theorem later_any (T : Tr) (E : Es) (sq en : Int) (A LA : Option Addr) (p : List Sgm) (cap ln lc : Nat) (w : World) (hm : p.length ≤ 1000000) (hB : SupB T E en) (hr : Rd w A 4 Sgc p) :
    Calls Tryd.prog 102 #[.agg #[.int .i64 T.id, .string T.name, .int .i64 T.len, .int .i64 T.speed, .int .i64 T.accel, .int .i64 T.service, .int .i64 T.emergency, .int .i64 T.delay, .int .i64 T.cons, .int .i64 T.rate, .int .i64 sq, .int .i64 en, .slice A p.length cap, .slice LA ln lc, .int .i64 E.min, .int .i64 E.max, .int .i64 E.speed]] w fun e w' => e = .returned (.bool (aheadB T p E en)) ∧ Below w.heap.size w w' := by
  have HR := Lib.hid hr
  clear hr
  have HE0 := Lib.hid (eal (Ext.refl w) (.cells #[.int .i64 T.id, .string T.name, .int .i64 T.len, .int .i64 T.speed, .int .i64 T.accel, .int .i64 T.service, .int .i64 T.emergency, .int .i64 T.delay, .int .i64 T.cons, .int .i64 T.rate, .int .i64 sq, .int .i64 en, .slice A p.length cap, .slice LA ln lc, .int .i64 E.min, .int .i64 E.max, .int .i64 E.speed] 138))
  have hsw := IntWalk.i64_in (E.speed + T.accel) (by have := hB.spd; have := hB.acc; omega)
  cases hb : reachB p E en
  · have HE : Hid (aheadB T p E en = false) := ahead_no hb
    have HB0 := Lib.hid hb
    clear hb
    go_enter Tryd.func102, Tryd.ntmps102
    go_wp2_with (go_at_call 118; refine (to_after (reaches_any T E sq en A LA p cap ln lc _ hm (HR.out.keep HE0.out))).mono ?_; rintro e w' ⟨y, rfl, rfl⟩; rw [HB0.out])
    go_ret
    exact ⟨ret_bool HE.out.symm, etr HE0.out y.is⟩
  · have HE : Hid (aheadB T p E en = haltB T p E en (E.speed + T.accel) (E.speed + T.accel)) := ahead_is hb
    have HB0 := Lib.hid hb
    clear hb
    obtain ⟨w1, hw⟩ : ∃ w1, w1 = w.alloc (.cells #[.int .i64 T.id, .string T.name, .int .i64 T.len, .int .i64 T.speed, .int .i64 T.accel, .int .i64 T.service, .int .i64 T.emergency, .int .i64 T.delay, .int .i64 T.cons, .int .i64 T.rate, .int .i64 sq, .int .i64 en, .slice A p.length cap, .slice LA ln lc, .int .i64 E.min, .int .i64 E.max, .int .i64 E.speed] 138) := ⟨_, rfl⟩
    have HCB : Hid (CellsAt w1 w.heap.size [.int .i64 T.id, .string T.name, .int .i64 T.len, .int .i64 T.speed, .int .i64 T.accel, .int .i64 T.service, .int .i64 T.emergency, .int .i64 T.delay, .int .i64 T.cons, .int .i64 T.rate, .int .i64 sq, .int .i64 en, .slice A p.length cap, .slice LA ln lc, .int .i64 E.min, .int .i64 E.max, .int .i64 E.speed]) := by rw [hw]; exact CellsAt.new rfl
    rw [← hw] at HE0
    go_enter Tryd.func102, Tryd.ntmps102
    go_wp2_with fail
    rw [← hw]
    clear hw
    refine (reaches_any T E sq en A LA p cap ln lc _ hm (HR.out.keep HE0.out)).mono ?_
    rintro e w2 ⟨rfl, hb2⟩
    rw [HB0.out]
    have HX2 := Lib.hid (etr HE0.out hb2)
    have HC2 := HCB.out.keep hb2
    clear hb2
    have v0 := HC2.2 0 _ rfl
    have v1 := HC2.2 1 _ rfl
    have v2 := HC2.2 2 _ rfl
    have v3 := HC2.2 3 _ rfl
    have v4 := HC2.2 4 _ rfl
    have v5 := HC2.2 5 _ rfl
    have v6 := HC2.2 6 _ rfl
    have v7 := HC2.2 7 _ rfl
    have v8 := HC2.2 8 _ rfl
    have v9 := HC2.2 9 _ rfl
    have v10 := HC2.2 10 _ rfl
    have v11 := HC2.2 11 _ rfl
    have v12 := HC2.2 12 _ rfl
    have v13 := HC2.2 13 _ rfl
    have v14 := HC2.2 14 _ rfl
    have v15 := HC2.2 15 _ rfl
    have v16 := HC2.2 16 _ rfl
    have zz := HC2.1
    clear HC2
    go_wp2_with fail
    refine (stops_any T E sq en A LA p cap ln lc (E.speed + T.accel) (E.speed + T.accel) _ hm hB (by have := hB.spd; have := hB.acc; omega) (HR.out.keep HX2.out)).mono ?_
    rintro e w3 ⟨rfl, hb3⟩
    have HX3 := Lib.hid (etr HX2.out hb3)
    clear hb3
    go_wp2
    go_ret
    exact ⟨ret_bool HE.out.symm, HX3.out⟩
theorem supsafe_any (T : Tr) (E : Es) (sq en : Int) (A LA : Option Addr) (p : List Sgm) (cap ln lc : Nat) (w : World) (hm : p.length ≤ 1000000) (hB : SupB T E en) (hr : Rd w A 4 Sgc p) :
    Calls Tryd.prog 151 #[.agg #[.int .i64 T.id, .string T.name, .int .i64 T.len, .int .i64 T.speed, .int .i64 T.accel, .int .i64 T.service, .int .i64 T.emergency, .int .i64 T.delay, .int .i64 T.cons, .int .i64 T.rate], .agg #[.int .i64 sq, .int .i64 en, .slice A p.length cap, .slice LA ln lc], .agg #[.int .i64 E.min, .int .i64 E.max, .int .i64 E.speed]] w fun e w' => e = .returned (.bool (safeB T p E en)) ∧ Below w.heap.size w w' := by
  have HR := Lib.hid hr
  clear hr
  have HE0 := Lib.hid (eal (eal (eal (eal (eal (eal (Ext.refl w) (.cells #[.int .i64 T.id, .string T.name, .int .i64 T.len, .int .i64 T.speed, .int .i64 T.accel, .int .i64 T.service, .int .i64 T.emergency, .int .i64 T.delay, .int .i64 T.cons, .int .i64 T.rate] 23)) (.cells #[.int .i64 sq, .int .i64 en, .slice A p.length cap, .slice LA ln lc] 29)) (.cells #[.int .i64 E.min, .int .i64 E.max, .int .i64 E.speed] 25)) (.cells #[.int .i64 T.id, .string T.name, .int .i64 T.len, .int .i64 T.speed, .int .i64 T.accel, .int .i64 T.service, .int .i64 T.emergency, .int .i64 T.delay, .int .i64 T.cons, .int .i64 T.rate] 23)) (.cells #[.int .i64 sq, .int .i64 en, .slice A p.length cap, .slice LA ln lc] 29)) (.cells #[.int .i64 E.min, .int .i64 E.max, .int .i64 E.speed] 25))
  go_enter Tryd.func151, Tryd.ntmps151
  go_wp2_with (first
    | (go_at_call 154; refine (to_after (now_any T E sq en A LA p cap ln lc _ hm hB (HR.out.keep HE0.out))).mono ?_; rintro e w' ⟨y, rfl, rfl⟩)
    | go_in)
  go_ret
  exact ⟨rfl, etr HE0.out y.is⟩
theorem supahead_any (T : Tr) (E : Es) (sq en : Int) (A LA : Option Addr) (p : List Sgm) (cap ln lc : Nat) (w : World) (hm : p.length ≤ 1000000) (hB : SupB T E en) (hr : Rd w A 4 Sgc p) :
    Calls Tryd.prog 75 #[.agg #[.int .i64 T.id, .string T.name, .int .i64 T.len, .int .i64 T.speed, .int .i64 T.accel, .int .i64 T.service, .int .i64 T.emergency, .int .i64 T.delay, .int .i64 T.cons, .int .i64 T.rate], .agg #[.int .i64 sq, .int .i64 en, .slice A p.length cap, .slice LA ln lc], .agg #[.int .i64 E.min, .int .i64 E.max, .int .i64 E.speed]] w fun e w' => e = .returned (.bool (aheadB T p E en)) ∧ Below w.heap.size w w' := by
  have HR := Lib.hid hr
  clear hr
  have HE0 := Lib.hid (eal (eal (eal (eal (eal (eal (Ext.refl w) (.cells #[.int .i64 T.id, .string T.name, .int .i64 T.len, .int .i64 T.speed, .int .i64 T.accel, .int .i64 T.service, .int .i64 T.emergency, .int .i64 T.delay, .int .i64 T.cons, .int .i64 T.rate] 23)) (.cells #[.int .i64 sq, .int .i64 en, .slice A p.length cap, .slice LA ln lc] 29)) (.cells #[.int .i64 E.min, .int .i64 E.max, .int .i64 E.speed] 25)) (.cells #[.int .i64 T.id, .string T.name, .int .i64 T.len, .int .i64 T.speed, .int .i64 T.accel, .int .i64 T.service, .int .i64 T.emergency, .int .i64 T.delay, .int .i64 T.cons, .int .i64 T.rate] 23)) (.cells #[.int .i64 sq, .int .i64 en, .slice A p.length cap, .slice LA ln lc] 29)) (.cells #[.int .i64 E.min, .int .i64 E.max, .int .i64 E.speed] 25))
  go_enter Tryd.func75, Tryd.ntmps75
  go_wp2_with (first
    | (go_at_call 102; refine (to_after (later_any T E sq en A LA p cap ln lc _ hm hB (HR.out.keep HE0.out))).mono ?_; rintro e w' ⟨y, rfl, rfl⟩)
    | go_in)
  go_ret
  exact ⟨rfl, etr HE0.out y.is⟩

end Go.Proofs.YtbgmknkmfhpgeaaDoor
