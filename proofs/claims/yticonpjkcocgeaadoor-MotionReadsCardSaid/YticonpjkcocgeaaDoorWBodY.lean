/- Several texts in one: WBodD, WBodE, WBodF. -/
import Derived.Test.YticonpjkcocgeaaDoorWBodX
import Derived.Test.YticonpjkcocgeaaDoorWChks
set_option linter.unusedVariables false
set_option linter.unusedSimpArgs false
set_option maxRecDepth 100000
namespace Go.Proofs.YticonpjkcocgeaaDoor
open Go.ChangeShapes Go.WideShapes Go.ChangeAt Go.RowKit
open Sg

theorem firstS_get {way : List Stp} (h : 0 < way.length) : way[0]? = some (firstS way) := by
  unfold firstS; rw [List.getD_eq_getElem?_getD, List.getElem?_eq_getElem h]; rfl
theorem chkM_neg {els : List Elm} {jts : List Jnt} {l : List Stp} {head len : Int} (h : BodOk els jts l head len) (g : rearV els l head len < 0) : chkM els jts l head len = 10 := chkM_rear h (fun r => by have := r.1; omega)
theorem chkM_left {els : List Elm} {jts : List Jnt} {l : List Stp} {head len : Int} (h : BodOk els jts l head len) (h1 : 1 < l.length) (g : lenOf els (firstS l) ≤ rearV els l head len) : chkM els jts l head len = 10 := chkM_rear h (fun r => by have := r.2 h1; omega)
theorem chkM_ok {els : List Elm} {jts : List Jnt} {l : List Stp} {head len : Int} (h : BodOk els jts l head len) (g : 0 ≤ rearV els l head len) (h1 : 1 < l.length → rearV els l head len < lenOf els (firstS l)) : chkM els jts l head len = 0 := chkM_zero.2 ⟨h, g, h1⟩
section
set_option maxHeartbeats 16000000
theorem bchk_any (L : Lay) (A : Option Addr) (way : List Stp) (c : Nat) (head len : Int) (w : World) (hL : LayOk w L) (hT : Tabs w) (hE : ElsOk L.els) (hr : Rd w A 3 Stc way) (hm : way.length ≤ 200) (hc : way.length ≤ c) : Calls Tryd.prog 24 #[.agg #[.string L.name, .slice L.aS L.secs.length L.cS, .slice L.aE L.els.length L.cE, .slice L.aJ L.jts.length L.cJ, .slice L.aG L.sgs.length L.cG, .slice L.aB L.bals.length L.cB], .agg #[.slice A way.length c, .int .i64 head, .int .i64 len]] w fun e w' => e = .returned (.int .i64 (chkM L.els L.jts way head len)) ∧ Below w.heap.size w w' := by
  have HL := Lib.hid hL
  have HT := Lib.hid hT
  clear hT
  have HE := Lib.hid hE
  have HR := Lib.hid hr
  have HC := Lib.hid hc
  have hmm : way.length ≤ maxLen := by unfold maxLen; omega
  have HM := Lib.hid hmm
  clear hL hE hr hc hmm
  cases hw : wayB L.els L.jts way
  · have HV : Hid (chkM L.els L.jts way head len = 1) := chkM_arg (fun h => wayB_false.1 hw h.1)
    have HVAL : Hid (∀ w' : World, Ext w w' → Calls Tryd.prog 55 #[.agg #[.string L.name, .slice L.aS L.secs.length L.cS, .slice L.aE L.els.length L.cE, .slice L.aJ L.jts.length L.cJ, .slice L.aG L.sgs.length L.cG, .slice L.aB L.bals.length L.cB], .slice A way.length c] w' fun e w2 => e = .returned (.bool false) ∧ Below w'.heap.size w' w2) := fun w' h' => by
      have := valid_way L A way c w' (HL.out.keep h') (HT.out.keep h') HM.out HC.out (HR.out.keep h')
      rw [hw] at this; exact this
    clear hw
    go_enter Tryd.func24, Tryd.ntmps24
    go_upto_region 1 with (fail)
    refine wp_region_after (by kernel_rfl) (by kernel_rfl) ?_
    repeat (first | go_big_quiet_step ((first | (go_at_call 55; exact after_call _ (HVAL.out _ (etr (eal (eal (Ext.refl _) _) _) (After.is _)))))))
    refine wpQuiet_nil ?_
    rintro _ ⟨y, rfl⟩
    go_wp2
    go_ret
    exact ⟨ret_int HV.out.symm, etr (eal (eal (Ext.refl _) _) _) y.is⟩
  have HW : Hid (Sg.Way L.els L.jts way) := wayB_true.1 hw
  have HVAL : Hid (∀ w' : World, Ext w w' → Calls Tryd.prog 55 #[.agg #[.string L.name, .slice L.aS L.secs.length L.cS, .slice L.aE L.els.length L.cE, .slice L.aJ L.jts.length L.cJ, .slice L.aG L.sgs.length L.cG, .slice L.aB L.bals.length L.cB], .slice A way.length c] w' fun e w2 => e = .returned (.bool true) ∧ Below w'.heap.size w' w2) := fun w' h' => by
    have := valid_way L A way c w' (HL.out.keep h') (HT.out.keep h') HM.out HC.out (HR.out.keep h')
    rw [hw] at this; exact this
  clear hw
  by_cases k0 : len < 1
  · have HV : Hid (chkM L.els L.jts way head len = 1) := chkM_arg (fun h => by have := h.2.1; omega)
    have q1 : decide (len < 1) = true := decide_eq_true k0
    clear k0
    go_enter Tryd.func24, Tryd.ntmps24
    go_upto_region 1 with (fail)
    refine wp_region_after (by kernel_rfl) (by kernel_rfl) ?_
    repeat (first | go_big_quiet_step ((first | (go_at_call 55; exact after_call _ (HVAL.out _ (etr (eal (eal (Ext.refl _) _) _) (After.is _)))))))
    refine wpQuiet_nil ?_
    rintro _ ⟨y, rfl⟩
    go_wp2
    go_ret
    exact ⟨ret_int HV.out.symm, etr (eal (eal (Ext.refl _) _) _) y.is⟩
  have q1 : decide (len < 1) = false := decide_eq_false k0
  by_cases k1 : 1000000 < len
  · have HV : Hid (chkM L.els L.jts way head len = 1) := chkM_arg (fun h => by have := h.2.2.1; omega)
    have q2 : decide ((1000000 : Int) < len) = true := decide_eq_true k1
    clear k1
    go_enter Tryd.func24, Tryd.ntmps24
    go_upto_region 1 with (fail)
    refine wp_region_after (by kernel_rfl) (by kernel_rfl) ?_
    repeat (first | go_big_quiet_step ((first | (go_at_call 55; exact after_call _ (HVAL.out _ (etr (eal (eal (Ext.refl _) _) _) (After.is _)))))))
    refine wpQuiet_nil ?_
    rintro _ ⟨y, rfl⟩
    go_wp2
    go_ret
    exact ⟨ret_int HV.out.symm, etr (eal (eal (Ext.refl _) _) _) y.is⟩
  have q2 : decide ((1000000 : Int) < len) = false := decide_eq_false k1
  by_cases k2 : head < 1
  · have HV : Hid (chkM L.els L.jts way head len = 1) := chkM_arg (fun h => by have := h.2.2.2.1; omega)
    have q3 : decide (head < 1) = true := decide_eq_true k2
    clear k2
    go_enter Tryd.func24, Tryd.ntmps24
    go_upto_region 1 with (fail)
    refine wp_region_after (by kernel_rfl) (by kernel_rfl) ?_
    repeat (first | go_big_quiet_step ((first | (go_at_call 55; exact after_call _ (HVAL.out _ (etr (eal (eal (Ext.refl _) _) _) (After.is _)))))))
    refine wpQuiet_nil ?_
    rintro _ ⟨y, rfl⟩
    go_wp2
    go_ret
    exact ⟨ret_int HV.out.symm, etr (eal (eal (Ext.refl _) _) _) y.is⟩
  have q3 : decide (head < 1) = false := decide_eq_false k2
  have h0 : 0 < way.length := HW.out.1
  have hm64 : way.length ≤ 64 := HW.out.2.1
  have hlast := (HW.out.step (lastS_get h0)).1
  obtain ⟨kE, x, hel, hx, hxe⟩ := has_at hlast
  have hxb := HE.out kE x hx
  have hll : lenOf L.els (lastS way) = x.len := by unfold lenOf; rw [hxe]
  have HLL := Lib.hid hll
  have hkE := (List.getElem?_eq_some_iff.1 hx).1
  have hmE := HL.out.lE
  unfold maxLen at hmE
  obtain ⟨bE, oE, x', hAE, hx', hbE, e0, e1, e2, e3, e4, e5, e6⟩ := rd_el HL.out.hE (Ext.refl w) hkE
  rw [hx] at hx'
  cases hx'
  have HLAST : Hid (∀ w' : World, Ext w w' → Calls Tryd.prog 31 #[.agg #[.slice A way.length c, .int .i64 head, .int .i64 len]] w' fun e w2 => e = .returned (.agg #[.int .i64 (kE : Int), .int .i64 (lastS way).in_, .int .i64 (lastS way).out_]) ∧ Below w'.heap.size w' w2) := fun w' h' => by
    have := last_any A way c head len w' (HR.out.keep h') h0 HM.out
    rw [hel] at this; exact this
  generalize hi9 : (lastS way).in_ = li at HLAST
  generalize ho9 : (lastS way).out_ = lo at HLAST
  clear hi9 ho9
  have hfld : ∀ x : World, (Instr.field 75 (.agg #[.int .i64 (kE : Int), .int .i64 li, .int .i64 lo]) 0).run Tryd.prog x = .ok (.int .i64 (kE : Int)) x := fun _ => by kernel_rfl
  have hbE1 : bE < w.heap.size + 1 := by omega
  have hbE2 : bE < w.heap.size + 1 + 1 := by omega
  by_cases k3 : x.len < head
  · have HV : Hid (chkM L.els L.jts way head len = 1) := chkM_arg (fun h => by have := h.2.2.2.2; omega)
    have q4 : decide (x.len < head) = true := decide_eq_true k3
    clear k0 k1 k2 k3 hel hx hxe hll hlast hxb e0 e1 e3 e4 e5 e6
    rw [hAE] at HVAL ⊢
    clear hAE
    go_enter Tryd.func24, Tryd.ntmps24
    go_upto_region 1 with (fail)
    refine wp_region_after (by kernel_rfl) (by kernel_rfl) ?_
    repeat (first | go_big_quiet_step ((first | (go_at_call 55; exact after_call _ (HVAL.out _ (etr (eal (eal (Ext.refl _) _) _) (After.is _)))) | (go_at_call 31; exact after_call _ (HLAST.out _ (etr (eal (eal (Ext.refl _) _) _) (After.is _)))))))
    refine wpQuiet_nil ?_
    rintro _ ⟨y, rfl⟩
    go_wp2
    go_ret
    exact ⟨ret_int HV.out.symm, etr (eal (eal (Ext.refl _) _) _) y.is⟩
  have q4 : decide (x.len < head) = false := decide_eq_false k3
  have HB : Hid (BodOk L.els L.jts way head len) := ⟨HW.out, by omega, by omega, by omega, by omega⟩
  have hhb : 0 ≤ head ∧ head ≤ 1000000 := by have := hxb.2.2.2.1; omega
  have hlb : 1 ≤ len ∧ len ≤ 1000000 := by omega
  have hfirst := (HW.out.step (firstS_get h0)).1
  obtain ⟨kF, z, hef, hz, hze⟩ := has_at hfirst
  have hzb := HE.out kF z hz
  have hlf : lenOf L.els (firstS way) = z.len := by unfold lenOf; rw [hze]
  have hkF := (List.getElem?_eq_some_iff.1 hz).1
  obtain ⟨bE', oE', z', hAE', hz', hbE', g0, g1, g2, g3, g4, g5, g6⟩ := rd_el HL.out.hE (Ext.refl w) hkF
  rw [hAE] at hAE'
  cases hAE'
  rw [hz] at hz'
  cases hz'
  have HREAR : Hid (∀ w' : World, Ext w w' → Calls Tryd.prog 56 #[.agg #[.string L.name, .slice L.aS L.secs.length L.cS, .slice L.aE L.els.length L.cE, .slice L.aJ L.jts.length L.cJ, .slice L.aG L.sgs.length L.cG, .slice L.aB L.bals.length L.cB], .agg #[.slice A way.length c, .int .i64 head, .int .i64 len]] w' fun e w2 => e = .returned (.int .i64 (rearV L.els way head len)) ∧ Below w'.heap.size w' w2) := fun w' h' => rear_any L A way c head len w' (HL.out.keep h') HE.out (HR.out.keep h') (way_in HW.out) hm h0 HC.out hhb hlb
  obtain ⟨bw, ow, s, rfl, hs, hbs, s0, s1, s2⟩ := rd_st HR.out (Ext.refl w) (k := 0) h0
  obtain rfl : s = firstS way := by have := firstS_get h0; rw [hs] at this; cases this; rfl
  rw [hef] at s0
  have t0 : w.cell? ⟨bw, ow, none⟩ = some (.int .i64 (kF : Int)) := by simpa using s0
  have hrs : strV L.els way head = rearV L.els way head len + len := by unfold rearV; omega
  obtain ⟨rv, hrv⟩ : ∃ rv, rv = rearV L.els way head len := ⟨_, rfl⟩
  have hvb := sumL_bd HE.out (wayIn_take (way_in HW.out) (way.length - 1))
  have hv2 : (1000000 : Int) * ((way.take (way.length - 1)).length : Int) ≤ 200000000 := by simp; omega
  have hrvb : -1000000 ≤ rv ∧ rv ≤ 201000000 := by rw [hrv]; unfold rearV strV; omega
  rw [← hrv] at HREAR
  have HRV := Lib.hid hrv
  have HLF := Lib.hid hlf
  have hbw1 : bw < w.heap.size + 1 := by omega
  have hbw2 : bw < w.heap.size + 1 + 1 := by omega
  clear hs s0 s1 s2 hvb hv2 hrs hx hxe hll hlast hfirst hz hze hel hef hlf hrv k0 k1 k2 k3 e0 e1 e3 e4 e5 e6 g0 g1 g3 g4 g5 g6 hxb hzb
  rw [hAE] at HVAL HREAR ⊢
  clear hAE
  by_cases k4 : rv < 0
  · have q5 : decide (rv < 0) = true := decide_eq_true (by omega)
    have HV : Hid (chkM L.els L.jts way head len = 10) := chkM_neg HB.out (by rw [← HRV.out]; exact k4)
    clear k4
    go_enter Tryd.func24, Tryd.ntmps24
    go_upto_region 1 with (fail)
    refine wp_region_after (by kernel_rfl) (by kernel_rfl) ?_
    repeat (first | go_big_quiet_step ((first | (go_at_call 55; exact after_call _ (HVAL.out _ (etr (eal (eal (Ext.refl _) _) _) (After.is _)))) | (go_at_call 31; exact after_call _ (HLAST.out _ (etr (eal (eal (Ext.refl _) _) _) (After.is _)))))))
    refine wpQuiet_nil ?_
    rintro _ ⟨y, rfl⟩
    have gy : w.heap.size + 1 < y.val.heap.size := by have h := y.is.size; simp at h; omega
    have gy0 : w.heap.size < y.val.heap.size := by omega
    have gbw : bw < y.val.heap.size := by omega
    have gbE : bE < y.val.heap.size := by omega
    go_upto_region 4 with (go_at_call 56; refine (to_after (HREAR.out _ (etr (eal (eal (Ext.refl _) _) _) (After.is _)))).mono ?_; rintro e w2 ⟨y1, rfl, rfl⟩)
    have hy1 : w.heap.size + 1 < y1.val.heap.size := by have h := y1.is.size; omega
    have hy0 : w.heap.size < y1.val.heap.size := by omega
    have hbw1 : bw < y1.val.heap.size := by omega
    have hbE1 : bE < y1.val.heap.size := by omega
    refine wp_region_after (by kernel_rfl) (by kernel_rfl) ?_
    repeat (first | go_big_quiet_step (fail))
    refine wpQuiet_nil ?_
    rintro _ ⟨y2, rfl⟩
    go_wp2
    go_ret
    exact ⟨ret_int HV.out.symm, etr (etr (etr (eal (eal (Ext.refl _) _) _) y.is) y1.is) y2.is⟩
  have q5 : decide (rv < 0) = false := decide_eq_false (by omega)
  by_cases k5 : 1 < way.length
  case neg =>
    have q6 : decide ((1 : Int) < (way.length : Int)) = false := decide_eq_false (by omega)
    have q6n : decide (1 < way.length) = false := decide_eq_false k5
    have HV : Hid (chkM L.els L.jts way head len = 0) := chkM_ok HB.out (by rw [← HRV.out]; omega) (fun h => absurd h k5)
    clear k4 k5
    go_enter Tryd.func24, Tryd.ntmps24
    go_upto_region 1 with (fail)
    refine wp_region_after (by kernel_rfl) (by kernel_rfl) ?_
    repeat (first | go_big_quiet_step ((first | (go_at_call 55; exact after_call _ (HVAL.out _ (etr (eal (eal (Ext.refl _) _) _) (After.is _)))) | (go_at_call 31; exact after_call _ (HLAST.out _ (etr (eal (eal (Ext.refl _) _) _) (After.is _)))))))
    refine wpQuiet_nil ?_
    rintro _ ⟨y, rfl⟩
    have gy : w.heap.size + 1 < y.val.heap.size := by have h := y.is.size; simp at h; omega
    have gy0 : w.heap.size < y.val.heap.size := by omega
    have gbw : bw < y.val.heap.size := by omega
    have gbE : bE < y.val.heap.size := by omega
    go_upto_region 4 with (go_at_call 56; refine (to_after (HREAR.out _ (etr (eal (eal (Ext.refl _) _) _) (After.is _)))).mono ?_; rintro e w2 ⟨y1, rfl, rfl⟩)
    have hy1 : w.heap.size + 1 < y1.val.heap.size := by have h := y1.is.size; omega
    have hy0 : w.heap.size < y1.val.heap.size := by omega
    have hbw1 : bw < y1.val.heap.size := by omega
    have hbE1 : bE < y1.val.heap.size := by omega
    refine wp_region_after (by kernel_rfl) (by kernel_rfl) ?_
    repeat (first | go_big_quiet_step (fail))
    refine wpQuiet_nil ?_
    rintro _ ⟨y2, rfl⟩
    go_wp2
    go_ret
    exact ⟨ret_int HV.out.symm, etr (etr (etr (eal (eal (Ext.refl _) _) _) y.is) y1.is) y2.is⟩
  have q6 : decide ((1 : Int) < (way.length : Int)) = true := decide_eq_true (by omega)
  have q6n : decide (1 < way.length) = true := decide_eq_true k5
  by_cases k6 : z.len ≤ rv
  · have q7 : decide (z.len ≤ rv) = true := decide_eq_true (by omega)
    have HV : Hid (chkM L.els L.jts way head len = 10) := chkM_left HB.out k5 (by rw [← HRV.out, HLF.out]; exact k6)
    clear k4 k5 k6
    go_enter Tryd.func24, Tryd.ntmps24
    go_upto_region 1 with (fail)
    refine wp_region_after (by kernel_rfl) (by kernel_rfl) ?_
    repeat (first | go_big_quiet_step ((first | (go_at_call 55; exact after_call _ (HVAL.out _ (etr (eal (eal (Ext.refl _) _) _) (After.is _)))) | (go_at_call 31; exact after_call _ (HLAST.out _ (etr (eal (eal (Ext.refl _) _) _) (After.is _)))))))
    refine wpQuiet_nil ?_
    rintro _ ⟨y, rfl⟩
    have gy : w.heap.size + 1 < y.val.heap.size := by have h := y.is.size; simp at h; omega
    have gy0 : w.heap.size < y.val.heap.size := by omega
    have gbw : bw < y.val.heap.size := by omega
    have gbE : bE < y.val.heap.size := by omega
    go_upto_region 4 with (go_at_call 56; refine (to_after (HREAR.out _ (etr (eal (eal (Ext.refl _) _) _) (After.is _)))).mono ?_; rintro e w2 ⟨y1, rfl, rfl⟩)
    have hy1 : w.heap.size + 1 < y1.val.heap.size := by have h := y1.is.size; omega
    have hy0 : w.heap.size < y1.val.heap.size := by omega
    have hbw1 : bw < y1.val.heap.size := by omega
    have hbE1 : bE < y1.val.heap.size := by omega
    refine wp_region_after (by kernel_rfl) (by kernel_rfl) ?_
    repeat (first | go_big_quiet_step (fail))
    refine wpQuiet_nil ?_
    rintro _ ⟨y2, rfl⟩
    go_wp2
    go_ret
    exact ⟨ret_int HV.out.symm, etr (etr (etr (eal (eal (Ext.refl _) _) _) y.is) y1.is) y2.is⟩
  · have q7 : decide (z.len ≤ rv) = false := decide_eq_false (by omega)
    have HV : Hid (chkM L.els L.jts way head len = 0) := chkM_ok HB.out (by rw [← HRV.out]; omega) (fun h => by rw [← HRV.out, HLF.out]; omega)
    clear k4 k5 k6
    go_enter Tryd.func24, Tryd.ntmps24
    go_upto_region 1 with (fail)
    refine wp_region_after (by kernel_rfl) (by kernel_rfl) ?_
    repeat (first | go_big_quiet_step ((first | (go_at_call 55; exact after_call _ (HVAL.out _ (etr (eal (eal (Ext.refl _) _) _) (After.is _)))) | (go_at_call 31; exact after_call _ (HLAST.out _ (etr (eal (eal (Ext.refl _) _) _) (After.is _)))))))
    refine wpQuiet_nil ?_
    rintro _ ⟨y, rfl⟩
    have gy : w.heap.size + 1 < y.val.heap.size := by have h := y.is.size; simp at h; omega
    have gy0 : w.heap.size < y.val.heap.size := by omega
    have gbw : bw < y.val.heap.size := by omega
    have gbE : bE < y.val.heap.size := by omega
    go_upto_region 4 with (go_at_call 56; refine (to_after (HREAR.out _ (etr (eal (eal (Ext.refl _) _) _) (After.is _)))).mono ?_; rintro e w2 ⟨y1, rfl, rfl⟩)
    have hy1 : w.heap.size + 1 < y1.val.heap.size := by have h := y1.is.size; omega
    have hy0 : w.heap.size < y1.val.heap.size := by omega
    have hbw1 : bw < y1.val.heap.size := by omega
    have hbE1 : bE < y1.val.heap.size := by omega
    refine wp_region_after (by kernel_rfl) (by kernel_rfl) ?_
    repeat (first | go_big_quiet_step (fail))
    refine wpQuiet_nil ?_
    rintro _ ⟨y2, rfl⟩
    go_wp2
    go_ret
    exact ⟨ret_int HV.out.symm, etr (etr (etr (eal (eal (Ext.refl _) _) _) y.is) y1.is) y2.is⟩
theorem rbchk_any (L : Lay) (A : Option Addr) (way : List Stp) (c : Nat) (head len : Int) (w : World) (hL : LayOk w L) (hE : ElsOk L.els) (hr : Rd w A 3 Stc way) (hm : way.length ≤ 200) (hc : way.length ≤ c) : Calls Tryd.prog 39 #[.agg #[.string L.name, .slice L.aS L.secs.length L.cS, .slice L.aE L.els.length L.cE, .slice L.aJ L.jts.length L.cJ, .slice L.aG L.sgs.length L.cG, .slice L.aB L.bals.length L.cB], .agg #[.slice A way.length c, .int .i64 head, .int .i64 len]] w fun e w' => e = .returned (.int .i64 (chkM L.els L.jts way head len)) ∧ Below w.heap.size w w' := by
  have HL := Lib.hid hL
  have HE := Lib.hid hE
  have HR := Lib.hid hr
  have HC := Lib.hid hc
  have hmm : way.length ≤ maxLen := by unfold maxLen; omega
  have HM := Lib.hid hmm
  clear hL hE hr hc hmm
  cases hw : wayB L.els L.jts way
  · have HV : Hid (chkM L.els L.jts way head len = 1) := chkM_arg (fun h => wayB_false.1 hw h.1)
    have HVAL : Hid (∀ w' : World, Ext w w' → Calls Tryd.prog 67 #[.agg #[.string L.name, .slice L.aS L.secs.length L.cS, .slice L.aE L.els.length L.cE, .slice L.aJ L.jts.length L.cJ, .slice L.aG L.sgs.length L.cG, .slice L.aB L.bals.length L.cB], .slice A way.length c] w' fun e w2 => e = .returned (.bool false) ∧ Below w'.heap.size w' w2) := fun w' h' => by
      have := rvalid_way L A way c w' (HL.out.keep h') HM.out (HR.out.keep h')
      rw [hw] at this; exact this
    clear hw
    go_enter Tryd.func39, Tryd.ntmps39
    go_upto_region 1 with (fail)
    refine wp_region_after (by kernel_rfl) (by kernel_rfl) ?_
    repeat (first | go_big_quiet_step ((first | (go_at_call 67; exact after_call _ (HVAL.out _ (etr (eal (eal (Ext.refl _) _) _) (After.is _)))))))
    refine wpQuiet_nil ?_
    rintro _ ⟨y, rfl⟩
    go_wp2
    go_ret
    exact ⟨ret_int HV.out.symm, etr (eal (eal (Ext.refl _) _) _) y.is⟩
  have HW : Hid (Sg.Way L.els L.jts way) := wayB_true.1 hw
  have HVAL : Hid (∀ w' : World, Ext w w' → Calls Tryd.prog 67 #[.agg #[.string L.name, .slice L.aS L.secs.length L.cS, .slice L.aE L.els.length L.cE, .slice L.aJ L.jts.length L.cJ, .slice L.aG L.sgs.length L.cG, .slice L.aB L.bals.length L.cB], .slice A way.length c] w' fun e w2 => e = .returned (.bool true) ∧ Below w'.heap.size w' w2) := fun w' h' => by
    have := rvalid_way L A way c w' (HL.out.keep h') HM.out (HR.out.keep h')
    rw [hw] at this; exact this
  clear hw
  by_cases k0 : len < 1
  · have HV : Hid (chkM L.els L.jts way head len = 1) := chkM_arg (fun h => by have := h.2.1; omega)
    have q1 : decide (len < 1) = true := decide_eq_true k0
    clear k0
    go_enter Tryd.func39, Tryd.ntmps39
    go_upto_region 1 with (fail)
    refine wp_region_after (by kernel_rfl) (by kernel_rfl) ?_
    repeat (first | go_big_quiet_step ((first | (go_at_call 67; exact after_call _ (HVAL.out _ (etr (eal (eal (Ext.refl _) _) _) (After.is _)))))))
    refine wpQuiet_nil ?_
    rintro _ ⟨y, rfl⟩
    go_wp2
    go_ret
    exact ⟨ret_int HV.out.symm, etr (eal (eal (Ext.refl _) _) _) y.is⟩
  have q1 : decide (len < 1) = false := decide_eq_false k0
  by_cases k1 : 1000000 < len
  · have HV : Hid (chkM L.els L.jts way head len = 1) := chkM_arg (fun h => by have := h.2.2.1; omega)
    have q2 : decide ((1000000 : Int) < len) = true := decide_eq_true k1
    clear k1
    go_enter Tryd.func39, Tryd.ntmps39
    go_upto_region 1 with (fail)
    refine wp_region_after (by kernel_rfl) (by kernel_rfl) ?_
    repeat (first | go_big_quiet_step ((first | (go_at_call 67; exact after_call _ (HVAL.out _ (etr (eal (eal (Ext.refl _) _) _) (After.is _)))))))
    refine wpQuiet_nil ?_
    rintro _ ⟨y, rfl⟩
    go_wp2
    go_ret
    exact ⟨ret_int HV.out.symm, etr (eal (eal (Ext.refl _) _) _) y.is⟩
  have q2 : decide ((1000000 : Int) < len) = false := decide_eq_false k1
  by_cases k2 : head < 1
  · have HV : Hid (chkM L.els L.jts way head len = 1) := chkM_arg (fun h => by have := h.2.2.2.1; omega)
    have q3 : decide (head < 1) = true := decide_eq_true k2
    clear k2
    go_enter Tryd.func39, Tryd.ntmps39
    go_upto_region 1 with (fail)
    refine wp_region_after (by kernel_rfl) (by kernel_rfl) ?_
    repeat (first | go_big_quiet_step ((first | (go_at_call 67; exact after_call _ (HVAL.out _ (etr (eal (eal (Ext.refl _) _) _) (After.is _)))))))
    refine wpQuiet_nil ?_
    rintro _ ⟨y, rfl⟩
    go_wp2
    go_ret
    exact ⟨ret_int HV.out.symm, etr (eal (eal (Ext.refl _) _) _) y.is⟩
  have q3 : decide (head < 1) = false := decide_eq_false k2
  have h0 : 0 < way.length := HW.out.1
  have hm64 : way.length ≤ 64 := HW.out.2.1
  have hlast := (HW.out.step (lastS_get h0)).1
  obtain ⟨kE, x, hel, hx, hxe⟩ := has_at hlast
  have hxb := HE.out kE x hx
  have hll : lenOf L.els (lastS way) = x.len := by unfold lenOf; rw [hxe]
  have HLL := Lib.hid hll
  have hkE := (List.getElem?_eq_some_iff.1 hx).1
  have hmE := HL.out.lE
  unfold maxLen at hmE
  obtain ⟨bE, oE, x', hAE, hx', hbE, e0, e1, e2, e3, e4, e5, e6⟩ := rd_el HL.out.hE (Ext.refl w) hkE
  rw [hx] at hx'
  cases hx'
  have HLONG : Hid (∀ w' : World, Ext w w' → Calls Tryd.prog 68 #[.agg #[.string L.name, .slice L.aS L.secs.length L.cS, .slice L.aE L.els.length L.cE, .slice L.aJ L.jts.length L.cJ, .slice L.aG L.sgs.length L.cG, .slice L.aB L.bals.length L.cB], .agg #[.int .i64 (kE : Int), .int .i64 (lastS way).in_, .int .i64 (lastS way).out_]] w' fun e w2 => e = .returned (.int .i64 x.len) ∧ Below w'.heap.size w' w2) := fun w' h' => by
    have := rlong_any L (lastS way) w' (HL.out.keep h') hlast
    rw [hel, hll] at this; exact this
  obtain ⟨bw, ow, s, rfl, hs, hbs, s0, s1, s2⟩ := rd_st HR.out (Ext.refl w) (k := way.length - 1) (by omega)
  obtain rfl : s = lastS way := by have := lastS_get h0; rw [hs] at this; cases this; rfl
  rw [hel] at s0
  have n1 : IntKind.i64.wrap ((way.length : Int) - 1) = (way.length : Int) - 1 := IntWalk.i64_in _ (by omega)
  have n2 : ((way.length : Int) - 1).toNat = way.length - 1 := by omega
  have n3 : (0 : Int) ≤ (way.length : Int) - 1 := by omega
  have n4 : (way.length : Int) - 1 < (way.length : Int) := by omega
  have n5 : (1 : Int) ≤ (way.length : Int) := by omega
  have n6 : 1 ≤ way.length := by omega
  have n7 : way.length - 1 < way.length := by omega
  have hbs1 : bw < w.heap.size + 1 := by omega
  have hbs2 : bw < w.heap.size + 1 + 1 := by omega
  clear hs
  generalize hi9 : (lastS way).in_ = li at HLONG s1
  generalize ho9 : (lastS way).out_ = lo at HLONG s2
  clear hi9 ho9
  have hbE1 : bE < w.heap.size + 1 := by omega
  have hbE2 : bE < w.heap.size + 1 + 1 := by omega
  by_cases k3 : x.len < head
  · have HV : Hid (chkM L.els L.jts way head len = 1) := chkM_arg (fun h => by have := h.2.2.2.2; omega)
    have q4 : decide (x.len < head) = true := decide_eq_true k3
    clear k0 k1 k2 k3 hel hx hxe hll hlast hxb e0 e1 e3 e4 e5 e6
    clear hAE e2
    go_enter Tryd.func39, Tryd.ntmps39
    go_upto_region 1 with (fail)
    refine wp_region_after (by kernel_rfl) (by kernel_rfl) ?_
    repeat (first | go_big_quiet_step ((first | (go_at_call 67; exact after_call _ (HVAL.out _ (etr (eal (eal (Ext.refl _) _) _) (After.is _)))) | (go_at_call 68; exact after_call _ (HLONG.out _ (etr (eal (eal (Ext.refl _) _) _) (After.is _)))))))
    refine wpQuiet_nil ?_
    rintro _ ⟨y, rfl⟩
    go_wp2
    go_ret
    exact ⟨ret_int HV.out.symm, etr (eal (eal (Ext.refl _) _) _) y.is⟩
  have q4 : decide (x.len < head) = false := decide_eq_false k3
  have HB : Hid (BodOk L.els L.jts way head len) := ⟨HW.out, by omega, by omega, by omega, by omega⟩
  have hhb : 0 ≤ head ∧ head ≤ 1000000 := by have := hxb.2.2.2.1; omega
  have hlb : 1 ≤ len ∧ len ≤ 1000000 := by omega
  have hfirst := (HW.out.step (firstS_get h0)).1
  obtain ⟨kF, z, hef, hz, hze⟩ := has_at hfirst
  have hzb := HE.out kF z hz
  have hlf : lenOf L.els (firstS way) = z.len := by unfold lenOf; rw [hze]
  have hkF := (List.getElem?_eq_some_iff.1 hz).1
  obtain ⟨bE', oE', z', hAE', hz', hbE', g0, g1, g2, g3, g4, g5, g6⟩ := rd_el HL.out.hE (Ext.refl w) hkF
  rw [hAE] at hAE'
  cases hAE'
  rw [hz] at hz'
  cases hz'
  have HREAR : Hid (∀ w' : World, Ext w w' → Calls Tryd.prog 52 #[.agg #[.string L.name, .slice L.aS L.secs.length L.cS, .slice L.aE L.els.length L.cE, .slice L.aJ L.jts.length L.cJ, .slice L.aG L.sgs.length L.cG, .slice L.aB L.bals.length L.cB], .agg #[.slice (some ⟨bw, ow, none⟩) way.length c, .int .i64 head, .int .i64 len]] w' fun e w2 => e = .returned (.int .i64 (strV L.els way head)) ∧ Below w'.heap.size w' w2) := fun w' h' => rstretch_any L _ way c head len w' (HL.out.keep h') HE.out (HR.out.keep h') (way_in HW.out) hm hhb
  have HLONF : Hid (∀ w' : World, Ext w w' → Calls Tryd.prog 68 #[.agg #[.string L.name, .slice L.aS L.secs.length L.cS, .slice L.aE L.els.length L.cE, .slice L.aJ L.jts.length L.cJ, .slice L.aG L.sgs.length L.cG, .slice L.aB L.bals.length L.cB], .agg #[.int .i64 (kF : Int), .int .i64 (firstS way).in_, .int .i64 (firstS way).out_]] w' fun e w2 => e = .returned (.int .i64 z.len) ∧ Below w'.heap.size w' w2) := fun w' h' => by
    have := rlong_any L (firstS way) w' (HL.out.keep h') hfirst
    rw [hef, hlf] at this; exact this
  obtain ⟨bw', ow', s, hA', hs, _, u0, u1, u2⟩ := rd_st HR.out (Ext.refl w) (k := 0) h0
  cases hA'
  obtain rfl : s = firstS way := by have := firstS_get h0; rw [hs] at this; cases this; rfl
  rw [hef] at u0
  generalize hi9 : (firstS way).in_ = fi at HLONF u1
  generalize ho9 : (firstS way).out_ = fo at HLONF u2
  clear hi9 ho9
  have t0 : w.cell? ⟨bw, ow, none⟩ = some (.int .i64 (kF : Int)) := by simpa using u0
  have t1 : w.cell? ⟨bw, ow + 1, none⟩ = some (.int .i64 fi) := by simpa using u1
  have t2 : w.cell? ⟨bw, ow + 1 + 1, none⟩ = some (.int .i64 fo) := by simpa using u2
  clear u0 u1 u2
  have hrs : strV L.els way head = rearV L.els way head len + len := by unfold rearV; omega
  obtain ⟨rv, hrv⟩ : ∃ rv, rv = rearV L.els way head len := ⟨_, rfl⟩
  have hvb := sumL_bd HE.out (wayIn_take (way_in HW.out) (way.length - 1))
  have hv2 : (1000000 : Int) * ((way.take (way.length - 1)).length : Int) ≤ 200000000 := by simp; omega
  have hrvb : -1000000 ≤ rv ∧ rv ≤ 201000000 := by rw [hrv]; unfold rearV strV; omega
  rw [hrs, ← hrv] at HREAR
  have hstr : rv + len = strV L.els way head := by rw [hrv, hrs]
  obtain ⟨sv, hsv⟩ : ∃ sv, sv = rv + len := ⟨_, rfl⟩
  rw [← hsv] at HREAR
  have n8 : IntKind.i64.wrap (sv - z.len) = sv - z.len := IntWalk.i64_in _ (by have := hzb.2.2.1; have := hzb.2.2.2.1; omega)
  clear hstr
  have HRV := Lib.hid hrv
  have HLF := Lib.hid hlf
  have hbw1 : bw < w.heap.size + 1 := by omega
  have hbw2 : bw < w.heap.size + 1 + 1 := by omega
  clear hs hvb hv2 hrs hx hxe hll hlast hfirst hz hze hel hef hlf hrv k0 k1 k2 k3 e0 e1 e3 e4 e5 e6 g0 g1 g3 g4 g5 g6 hxb hzb
  clear hAE e2 g2
  by_cases k4 : rv < 0
  · have q5 : decide (sv < len) = true := decide_eq_true (by omega)
    have HV : Hid (chkM L.els L.jts way head len = 10) := chkM_neg HB.out (by rw [← HRV.out]; exact k4)
    clear k4 hsv
    go_enter Tryd.func39, Tryd.ntmps39
    go_upto_region 1 with (fail)
    refine wp_region_after (by kernel_rfl) (by kernel_rfl) ?_
    repeat (first | go_big_quiet_step ((first | (go_at_call 67; exact after_call _ (HVAL.out _ (etr (eal (eal (Ext.refl _) _) _) (After.is _)))) | (go_at_call 68; exact after_call _ (HLONG.out _ (etr (eal (eal (Ext.refl _) _) _) (After.is _)))))))
    refine wpQuiet_nil ?_
    rintro _ ⟨y, rfl⟩
    have gy : w.heap.size + 1 < y.val.heap.size := by have h := y.is.size; simp at h; omega
    have gy0 : w.heap.size < y.val.heap.size := by omega
    have gbw : bw < y.val.heap.size := by omega
    have gbE : bE < y.val.heap.size := by omega
    go_upto_region 4 with (go_at_call 52; refine (to_after (HREAR.out _ (etr (eal (eal (Ext.refl _) _) _) (After.is _)))).mono ?_; rintro e w2 ⟨y1, rfl, rfl⟩)
    have hy1 : w.heap.size + 1 < y1.val.heap.size := by have h := y1.is.size; omega
    have hy0 : w.heap.size < y1.val.heap.size := by omega
    have hbw1 : bw < y1.val.heap.size := by omega
    have hbE1 : bE < y1.val.heap.size := by omega
    refine wp_region_after (by kernel_rfl) (by kernel_rfl) ?_
    repeat (first | go_big_quiet_step ((first | (go_at_call 68; exact after_call _ (HLONF.out _ (etr (etr (etr (eal (eal (Ext.refl _) _) _) y.is) y1.is) (After.is _)))))))
    refine wpQuiet_nil ?_
    rintro _ ⟨y2, rfl⟩
    go_wp2
    go_ret
    exact ⟨ret_int HV.out.symm, etr (etr (etr (eal (eal (Ext.refl _) _) _) y.is) y1.is) y2.is⟩
  have q5 : decide (sv < len) = false := decide_eq_false (by omega)
  by_cases k5 : 1 < way.length
  case neg =>
    have q6 : decide ((1 : Int) < (way.length : Int)) = false := decide_eq_false (by omega)
    have q6n : decide (1 < way.length) = false := decide_eq_false k5
    have HV : Hid (chkM L.els L.jts way head len = 0) := chkM_ok HB.out (by rw [← HRV.out]; omega) (fun h => absurd h k5)
    clear k4 k5 hsv
    go_enter Tryd.func39, Tryd.ntmps39
    go_upto_region 1 with (fail)
    refine wp_region_after (by kernel_rfl) (by kernel_rfl) ?_
    repeat (first | go_big_quiet_step ((first | (go_at_call 67; exact after_call _ (HVAL.out _ (etr (eal (eal (Ext.refl _) _) _) (After.is _)))) | (go_at_call 68; exact after_call _ (HLONG.out _ (etr (eal (eal (Ext.refl _) _) _) (After.is _)))))))
    refine wpQuiet_nil ?_
    rintro _ ⟨y, rfl⟩
    have gy : w.heap.size + 1 < y.val.heap.size := by have h := y.is.size; simp at h; omega
    have gy0 : w.heap.size < y.val.heap.size := by omega
    have gbw : bw < y.val.heap.size := by omega
    have gbE : bE < y.val.heap.size := by omega
    go_upto_region 4 with (go_at_call 52; refine (to_after (HREAR.out _ (etr (eal (eal (Ext.refl _) _) _) (After.is _)))).mono ?_; rintro e w2 ⟨y1, rfl, rfl⟩)
    have hy1 : w.heap.size + 1 < y1.val.heap.size := by have h := y1.is.size; omega
    have hy0 : w.heap.size < y1.val.heap.size := by omega
    have hbw1 : bw < y1.val.heap.size := by omega
    have hbE1 : bE < y1.val.heap.size := by omega
    refine wp_region_after (by kernel_rfl) (by kernel_rfl) ?_
    repeat (first | go_big_quiet_step ((first | (go_at_call 68; exact after_call _ (HLONF.out _ (etr (etr (etr (eal (eal (Ext.refl _) _) _) y.is) y1.is) (After.is _)))))))
    refine wpQuiet_nil ?_
    rintro _ ⟨y2, rfl⟩
    go_wp2
    go_ret
    exact ⟨ret_int HV.out.symm, etr (etr (etr (eal (eal (Ext.refl _) _) _) y.is) y1.is) y2.is⟩
  have q6 : decide ((1 : Int) < (way.length : Int)) = true := decide_eq_true (by omega)
  have q6n : decide (1 < way.length) = true := decide_eq_true k5
  by_cases k6 : z.len ≤ rv
  · have q7 : decide (len ≤ sv - z.len) = true := decide_eq_true (by omega)
    have HV : Hid (chkM L.els L.jts way head len = 10) := chkM_left HB.out k5 (by rw [← HRV.out, HLF.out]; exact k6)
    clear k4 k5 k6 hsv
    go_enter Tryd.func39, Tryd.ntmps39
    go_upto_region 1 with (fail)
    refine wp_region_after (by kernel_rfl) (by kernel_rfl) ?_
    repeat (first | go_big_quiet_step ((first | (go_at_call 67; exact after_call _ (HVAL.out _ (etr (eal (eal (Ext.refl _) _) _) (After.is _)))) | (go_at_call 68; exact after_call _ (HLONG.out _ (etr (eal (eal (Ext.refl _) _) _) (After.is _)))))))
    refine wpQuiet_nil ?_
    rintro _ ⟨y, rfl⟩
    have gy : w.heap.size + 1 < y.val.heap.size := by have h := y.is.size; simp at h; omega
    have gy0 : w.heap.size < y.val.heap.size := by omega
    have gbw : bw < y.val.heap.size := by omega
    have gbE : bE < y.val.heap.size := by omega
    go_upto_region 4 with (go_at_call 52; refine (to_after (HREAR.out _ (etr (eal (eal (Ext.refl _) _) _) (After.is _)))).mono ?_; rintro e w2 ⟨y1, rfl, rfl⟩)
    have hy1 : w.heap.size + 1 < y1.val.heap.size := by have h := y1.is.size; omega
    have hy0 : w.heap.size < y1.val.heap.size := by omega
    have hbw1 : bw < y1.val.heap.size := by omega
    have hbE1 : bE < y1.val.heap.size := by omega
    refine wp_region_after (by kernel_rfl) (by kernel_rfl) ?_
    repeat (first | go_big_quiet_step ((first | (go_at_call 68; exact after_call _ (HLONF.out _ (etr (etr (etr (eal (eal (Ext.refl _) _) _) y.is) y1.is) (After.is _)))))))
    refine wpQuiet_nil ?_
    rintro _ ⟨y2, rfl⟩
    go_wp2
    go_ret
    exact ⟨ret_int HV.out.symm, etr (etr (etr (eal (eal (Ext.refl _) _) _) y.is) y1.is) y2.is⟩
  · have q7 : decide (len ≤ sv - z.len) = false := decide_eq_false (by omega)
    have HV : Hid (chkM L.els L.jts way head len = 0) := chkM_ok HB.out (by rw [← HRV.out]; omega) (fun h => by rw [← HRV.out, HLF.out]; omega)
    clear k4 k5 k6 hsv
    go_enter Tryd.func39, Tryd.ntmps39
    go_upto_region 1 with (fail)
    refine wp_region_after (by kernel_rfl) (by kernel_rfl) ?_
    repeat (first | go_big_quiet_step ((first | (go_at_call 67; exact after_call _ (HVAL.out _ (etr (eal (eal (Ext.refl _) _) _) (After.is _)))) | (go_at_call 68; exact after_call _ (HLONG.out _ (etr (eal (eal (Ext.refl _) _) _) (After.is _)))))))
    refine wpQuiet_nil ?_
    rintro _ ⟨y, rfl⟩
    have gy : w.heap.size + 1 < y.val.heap.size := by have h := y.is.size; simp at h; omega
    have gy0 : w.heap.size < y.val.heap.size := by omega
    have gbw : bw < y.val.heap.size := by omega
    have gbE : bE < y.val.heap.size := by omega
    go_upto_region 4 with (go_at_call 52; refine (to_after (HREAR.out _ (etr (eal (eal (Ext.refl _) _) _) (After.is _)))).mono ?_; rintro e w2 ⟨y1, rfl, rfl⟩)
    have hy1 : w.heap.size + 1 < y1.val.heap.size := by have h := y1.is.size; omega
    have hy0 : w.heap.size < y1.val.heap.size := by omega
    have hbw1 : bw < y1.val.heap.size := by omega
    have hbE1 : bE < y1.val.heap.size := by omega
    refine wp_region_after (by kernel_rfl) (by kernel_rfl) ?_
    repeat (first | go_big_quiet_step ((first | (go_at_call 68; exact after_call _ (HLONF.out _ (etr (etr (etr (eal (eal (Ext.refl _) _) _) y.is) y1.is) (After.is _)))))))
    refine wpQuiet_nil ?_
    rintro _ ⟨y2, rfl⟩
    go_wp2
    go_ret
    exact ⟨ret_int HV.out.symm, etr (etr (etr (eal (eal (Ext.refl _) _) _) y.is) y1.is) y2.is⟩
end
end Go.Proofs.YticonpjkcocgeaaDoor

set_option linter.unusedVariables false
set_option linter.unusedSimpArgs false
set_option maxRecDepth 100000
namespace Go.Proofs.YticonpjkcocgeaaDoor
open Go.ChangeShapes Go.WideShapes Go.ChangeAt Go.RowKit
open Sg

/-- What is trimmed is a tail. -/
def trimN (els : List Elm) (l : List Stp) (head len : Int) : Nat := l.length - (trimB els l head len).length
theorem trim_suf (els : List Elm) (head len : Int) : ∀ l : List Stp, trimB els l head len <:+ l
  | [] => by rw [trimB_nil]; exact List.suffix_refl _
  | [s] => by rw [trimB_one]; exact List.suffix_refl _
  | s :: t :: r => by
    rw [trimB_cons]
    split
    · exact (trim_suf els head len (t :: r)).trans (List.suffix_cons _ _)
    · exact List.suffix_refl _
theorem trim_drop (els : List Elm) (l : List Stp) (head len : Int) : l.drop (trimN els l head len) = trimB els l head len := by
  obtain ⟨u, hu⟩ := trim_suf els head len l
  unfold trimN
  generalize trimB els l head len = t at hu ⊢
  subst hu
  have e : (u ++ t).length - t.length = u.length := by simp
  rw [e, List.drop_left]
theorem trimN_le (els : List Elm) (l : List Stp) (head len : Int) : trimN els l head len ≤ l.length := by unfold trimN; omega
theorem trimN_lt (els : List Elm) {l : List Stp} (head len : Int) (h : 0 < l.length) : trimN els l head len < l.length := by
  have := trimB_pos (els := els) (head := head) (len := len) h
  unfold trimN; omega
theorem trimN_is {els : List Elm} {l : List Stp} {head len : Int} {j : Nat} (hj : j ≤ l.length) (h : trimB els l head len = trimB els (l.drop j) head len) (g : Trimd els (l.drop j) head len) : trimN els l head len = j := by
  unfold trimN
  rw [h, trimB_id g, List.length_drop]; omega
theorem drop_two {l : List Stp} {j : Nat} (h : 1 < l.length - j) : ∃ s t r, l.drop j = s :: t :: r ∧ l.drop (j + 1) = t :: r ∧ l[j]? = some s := by
  have h1 : j < l.length := by omega
  have h2 : j + 1 < l.length := by omega
  exact ⟨l[j], l[j+1], l.drop (j + 1 + 1), by rw [List.drop_eq_getElem_cons h1, List.drop_eq_getElem_cons h2], by rw [List.drop_eq_getElem_cons h2], List.getElem?_eq_getElem h1⟩
theorem wayIn_drop {els : List Elm} {way : List Stp} (h : WayIn els way) (n : Nat) : WayIn els (way.drop n) := fun k s hs => h (n + k) s (by rw [List.getElem?_drop] at hs; exact hs)
theorem rear_bd {els : List Elm} (hE : ElsOk els) {l : List Stp} {head len : Int} (h : WayIn els l) (hm : l.length ≤ 200) (hh : 0 ≤ head ∧ head ≤ 1000000) (hl : 1 ≤ len ∧ len ≤ 1000000) : -1000000 ≤ rearV els l head len ∧ rearV els l head len ≤ 201000000 ∧ strV els l head ≤ 201000000 ∧ 0 ≤ strV els l head := by
  have hv := sumL_bd hE (wayIn_take h (l.length - 1))
  have hv2 : (1000000 : Int) * ((l.take (l.length - 1)).length : Int) ≤ 200000000 := by simp; omega
  unfold rearV strV; omega
theorem trim_go {els : List Elm} {l : List Stp} {head len : Int} {j : Nat} {s : Stp} (h1 : 1 < l.length - j) (hs : l[j]? = some s) (ht : trimB els l head len = trimB els (l.drop j) head len) (hc : lenOf els s ≤ rearV els (l.drop j) head len) :
    trimB els l head len = trimB els (l.drop (j + 1)) head len ∧ rearV els (l.drop j) head len - lenOf els s = rearV els (l.drop (j + 1)) head len := by
  obtain ⟨s', t, r, e1, e2, e3⟩ := drop_two h1
  rw [e3] at hs; cases hs
  rw [ht, e1, e2]
  rw [e1] at hc
  exact ⟨by rw [trimB_cons, if_pos hc], by rw [rearV_cons]; omega⟩
theorem trim_end {els : List Elm} {l : List Stp} {head len : Int} {j : Nat} {s : Stp} (hj : j ≤ l.length) (hs : l[j]? = some s) (ht : trimB els l head len = trimB els (l.drop j) head len) (hc : l.length - j ≤ 1 ∨ rearV els (l.drop j) head len < lenOf els s) : trimN els l head len = j := by
  refine trimN_is hj ht (fun h1 => ?_)
  rw [List.length_drop] at h1
  rcases hc with hc | hc
  · omega
  · obtain ⟨s', t, r, e1, e2, e3⟩ := drop_two h1
    rw [e3] at hs; cases hs
    have : firstS (l.drop j) = s := by rw [e1]; rfl
    rw [this]; exact hc
theorem aE_some {w : World} {L : Lay} (h : LayOk w L) {el : Int} (g : hasEl L.els el) : ∃ b o, L.aE = some ⟨b, o, none⟩ := by
  obtain ⟨k0, x0, _, hx0, _⟩ := has_at g
  obtain ⟨bE, oE, x', hAE, _⟩ := rd_el h.hE (Ext.refl w) (List.getElem?_eq_some_iff.1 hx0).1
  exact ⟨bE, oE, hAE⟩
theorem layAt_some {w : World} {b : Nat} {L : Lay} {A' : Option Addr} (h : L.aE = A') (g : CellsAt w b [.string L.name, .slice L.aS L.secs.length L.cS, .slice A' L.els.length L.cE, .slice L.aJ L.jts.length L.cJ, .slice L.aG L.sgs.length L.cG, .slice L.aB L.bals.length L.cB]) : LayAt w b L := by subst h; exact g
theorem sl_stl (b o n c p : Nat) (q : Int) (hq : q = (p : Int)) (hp : p ≤ n) (hc : p < c) (w : World) : (Instr.slice 30 (.slice (some ⟨b, o, none⟩) n c) (some (.int .i64 q)) none none).run Tryd.prog w = .ok (.slice (some ⟨b, o + p * 3, none⟩) (n - p) (c - p)) w := by
  subst hq
  rw [run_slice_l w 30 (some ⟨b, o, none⟩) n c (by kernel_rfl) .i64 (p : Int) (by omega) (by omega)]
  have hs : (sizeOf (Tryd.prog.elem 30)).run Tryd.prog w = .ok 3 w := by simp [go_sem]
  rw [hs]
  simp only [Result.andThen, sliced, Int.toNat_natCast]
  congr 2
  rw [if_neg (by omega)]
  show some ((⟨b, o, none⟩ : Addr).add (p * 3)) = _
  rw [add_plain]
section
set_option maxHeartbeats 16000000
/-! ### the code -/
theorem remain_any (L : Lay) (bw ow : Nat) (way : List Stp) (c : Nat) (head len : Int) (w : World) (hL : LayOk w L) (hE : ElsOk L.els) (hr : Rd w (some ⟨bw, ow, none⟩) 3 Stc way) (hin : WayIn L.els way) (hm : way.length ≤ 200) (h0 : 0 < way.length) (hc : way.length ≤ c) (hh : 0 ≤ head ∧ head ≤ 1000000) (hl : 1 ≤ len ∧ len ≤ 1000000) : Calls Tryd.prog 30 #[.agg #[.string L.name, .slice L.aS L.secs.length L.cS, .slice L.aE L.els.length L.cE, .slice L.aJ L.jts.length L.cJ, .slice L.aG L.sgs.length L.cG, .slice L.aB L.bals.length L.cB], .agg #[.slice (some ⟨bw, ow, none⟩) way.length c, .int .i64 head, .int .i64 len]] w fun e w' => e = .returned (.slice (some ⟨bw, ow + trimN L.els way head len * 3, none⟩) (way.length - trimN L.els way head len) (c - trimN L.els way head len)) ∧ Below w.heap.size w w' := by
  have HL := Lib.hid hL
  have HE := Lib.hid hE
  have HR := Lib.hid hr
  have HI := Lib.hid hin
  have HH := Lib.hid hh
  have HLn := Lib.hid hl
  have HC := Lib.hid hc
  have HREAR : Hid (∀ w' : World, Ext w w' → Calls Tryd.prog 56 #[.agg #[.string L.name, .slice L.aS L.secs.length L.cS, .slice L.aE L.els.length L.cE, .slice L.aJ L.jts.length L.cJ, .slice L.aG L.sgs.length L.cG, .slice L.aB L.bals.length L.cB], .agg #[.slice (some ⟨bw, ow, none⟩) way.length c, .int .i64 head, .int .i64 len]] w' fun e w2 => e = .returned (.int .i64 (rearV L.els way head len)) ∧ Below w'.heap.size w' w2) := fun w' h' => rear_any L _ way c head len w' (HL.out.keep h') HE.out (HR.out.keep h') HI.out hm h0 HC.out HH.out HLn.out
  obtain ⟨rv0, hrv0⟩ : ∃ rv0, rv0 = rearV L.els way head len := ⟨_, rfl⟩
  rw [← hrv0] at HREAR
  have HRV0 := Lib.hid hrv0
  have hmE := HL.out.lE
  unfold maxLen at hmE
  obtain ⟨bE, oE, hAE⟩ := aE_some hL (hin 0 _ (List.getElem?_eq_getElem h0))
  have HAE := Lib.hid hAE
  rw [hAE] at HREAR ⊢
  have HN0 : Hid (0 < way.length) := h0
  have HM := Lib.hid hm
  clear hL hE hr hin hh hl hc hrv0 hAE h0 hm
  go_enter Tryd.func30, Tryd.ntmps30
  go_upto_region 1 with (fail)
  refine wp_region_after (by kernel_rfl) (by kernel_rfl) ?_
  repeat (first | go_big_quiet_step ((first | (go_at_call 56; exact after_call _ (HREAR.out _ (etr (eal (eal (Ext.refl _) _) _) (After.is _)))))))
  refine wpQuiet_nil ?_
  rintro _ ⟨y, rfl⟩
  go_wp2
  go_loopg [5, 6] way.length (fun g x5 x6 wr => ∃ (j off n c' : Nat) (rv : Int), x5 = .slice (some ⟨bw, off, none⟩) n c' ∧ x6 = .int .i64 rv ∧ 1 ≤ n ∧ n ≤ 200 ∧ n ≤ c' ∧ Hid (g = n) ∧ Hid (Ext w wr ∧ LayAt wr w.heap.size L ∧ off = ow + j * 3 ∧ n = way.length - j ∧ c' = c - j ∧ j < way.length ∧ rv = rearV L.els (way.drop j) head len ∧ trimB L.els way head len = trimB L.els (way.drop j) head len))
  case atStart =>
    refine ⟨0, ow, way.length, c, rv0, rfl, rfl, HN0.out, HM.out, HC.out, rfl, etr (eal (eal (Ext.refl _) _) _) y.is, ?_, by omega, by omega, by omega, HN0.out, HRV0.out, rfl⟩
    have h := (CellsAt.new (w := w) (cs := #[.string L.name, .slice L.aS L.secs.length L.cS, .slice (some ⟨bE, oE, none⟩) L.els.length L.cE, .slice L.aJ L.jts.length L.cJ, .slice L.aG L.sgs.length L.cG, .slice L.aB L.bals.length L.cB]) (t := 28) (b := w.heap.size) rfl)
    exact layAt_some HAE.out ((h.keep (eal (Ext.refl _) _)).keep y.is)
  case round =>
    obtain ⟨j, off, n, c', rv, rfl, rfl, hn1, hn2, hn3, HG, H⟩ := hrel
    obtain ⟨l0, a0, a1, a2, a3, a4, a5⟩ := layAt_cells H.out.2.1
    rw [HAE.out] at a2
    by_cases k1 : 1 < n
    · have q1 : decide ((1 : Int) < (n : Int)) = true := decide_eq_true (by omega)
      have q1n : decide (1 < n) = true := decide_eq_true k1
      obtain ⟨bw', ow', s, hA', hs, hbs, s0, s1, s2⟩ := rd_st HR.out H.out.1 H.out.2.2.2.2.2.1
      cases hA'
      obtain ⟨kE, z, hel, hz, hze⟩ := has_at (HI.out j s hs)
      have hzb := HE.out kE z hz
      have hkE := (List.getElem?_eq_some_iff.1 hz).1
      obtain ⟨bE', oE', z', hAE', hz', hbE, e0, e1, e2, e3, e4, e5, e6⟩ := rd_el HL.out.hE H.out.1 hkE
      rw [HAE.out] at hAE'
      cases hAE'
      rw [hz] at hz'
      cases hz'
      have hll : lenOf L.els s = z.len := by unfold lenOf; rw [hze]
      rw [← H.out.2.2.1, hel] at s0
      have HS := Lib.hid hs
      have HLL := Lib.hid hll
      have hrb := rear_bd HE.out (wayIn_drop HI.out j) (by rw [List.length_drop]; have := HM.out; omega) HH.out HLn.out
      rw [← H.out.2.2.2.2.2.2.1] at hrb
      have n1 : IntKind.i64.wrap (rv - z.len) = rv - z.len := IntWalk.i64_in _ (by have := hzb.2.2.1; have := hzb.2.2.2.1; omega)
      have hk1 : 1 < way.length - j := by have := H.out.2.2.2.1; omega
      have HK1 := Lib.hid hk1
      have hsl := fun w => sl_stl bw off n c' 1 1 rfl (by omega) (by omega) w
      have n0 : 0 < n := by omega
      clear hs hll hz hze hel hzb e0 e1 e3 e4 e5 e6 s1 s2 hrb hk1
      by_cases k2 : z.len ≤ rv
      · have q2 : decide (z.len ≤ rv) = true := decide_eq_true k2
        have HGO := Lib.hid (trim_go HK1.out HS.out H.out.2.2.2.2.2.2.2 (by rw [HLL.out, ← H.out.2.2.2.2.2.2.1]; exact k2))
        clear k2
        go_upto_region 2 with (fail)
        refine wp_region_after (by kernel_rfl) (by kernel_rfl) ?_
        repeat (first | go_big_quiet_step (fail))
        refine wpQuiet_nil ?_
        rintro _ ⟨y1, rfl⟩
        go_upto_region 3 with (fail)
        refine wp_region_in y1 (by kernel_rfl) (by kernel_rfl) ?_
        repeat (first | go_big_quiet_step (fail))
        refine wpQuiet_nil ?_
        rintro _ ⟨y2, rfl⟩
        go_wp2
        go_roundg (n - 1)
        case measure => have := HG.out; omega
        case rel =>
          refine ⟨j + 1, _, n - 1, c' - 1, rv - z.len, rfl, rfl, by omega, by omega, by omega, rfl, etr H.out.1 y2.is, H.out.2.1.keep y2.is, ?_, ?_, ?_, ?_, ?_, HGO.out.1⟩
          · have := H.out.2.2.1; omega
          · have := H.out.2.2.2.1; omega
          · have := H.out.2.2.2.2.1; omega
          · have := HK1.out; omega
          · have := HGO.out.2; rw [HLL.out, ← H.out.2.2.2.2.2.2.1] at this; exact this
      · have q2 : decide (z.len ≤ rv) = false := decide_eq_false k2
        have HT : Hid (trimN L.els way head len = j) := trim_end (by have := HK1.out; omega) HS.out H.out.2.2.2.2.2.2.2 (.inr (by rw [HLL.out, ← H.out.2.2.2.2.2.2.1]; omega))
        clear k2
        go_upto_region 2 with (fail)
        refine wp_region_after (by kernel_rfl) (by kernel_rfl) ?_
        repeat (first | go_big_quiet_step (fail))
        refine wpQuiet_nil ?_
        rintro _ ⟨y1, rfl⟩
        go_wp2
        go_ret
        refine ⟨?_, etr H.out.1 y1.is⟩
        rw [HT.out, H.out.2.2.1, H.out.2.2.2.1, H.out.2.2.2.2.1]
        rfl
    · have q1 : decide ((1 : Int) < (n : Int)) = false := decide_eq_false (by omega)
      have q1n : decide (1 < n) = false := decide_eq_false k1
      obtain ⟨s, hs⟩ : ∃ s, way[j]? = some s := ⟨_, List.getElem?_eq_getElem H.out.2.2.2.2.2.1⟩
      have HT : Hid (trimN L.els way head len = j) := trim_end (by have := H.out.2.2.2.2.2.1; omega) hs H.out.2.2.2.2.2.2.2 (.inl (by have := H.out.2.2.2.1; omega))
      clear k1 hs
      go_upto_region 2 with (fail)
      refine wp_region_after (by kernel_rfl) (by kernel_rfl) ?_
      repeat (first | go_big_quiet_step (fail))
      refine wpQuiet_nil ?_
      rintro _ ⟨y1, rfl⟩
      go_wp2
      go_ret
      refine ⟨?_, etr H.out.1 y1.is⟩
      rw [HT.out, H.out.2.2.1, H.out.2.2.2.1, H.out.2.2.2.2.1]
      rfl
/-! ### the reference -/
theorem rtrim_any (L : Lay) (bw ow : Nat) (way : List Stp) (c : Nat) (head len : Int) (w : World) (hL : LayOk w L) (hE : ElsOk L.els) (hr : Rd w (some ⟨bw, ow, none⟩) 3 Stc way) (hin : WayIn L.els way) (hm : way.length ≤ 200) (h0 : 0 < way.length) (hc : way.length ≤ c) (hh : 0 ≤ head ∧ head ≤ 1000000) (hl : 1 ≤ len ∧ len ≤ 1000000) : Calls Tryd.prog 76 #[.agg #[.string L.name, .slice L.aS L.secs.length L.cS, .slice L.aE L.els.length L.cE, .slice L.aJ L.jts.length L.cJ, .slice L.aG L.sgs.length L.cG, .slice L.aB L.bals.length L.cB], .agg #[.slice (some ⟨bw, ow, none⟩) way.length c, .int .i64 head, .int .i64 len]] w fun e w' => e = .returned (.agg #[.slice (some ⟨bw, ow + trimN L.els way head len * 3, none⟩) (way.length - trimN L.els way head len) (c - trimN L.els way head len), .int .i64 head, .int .i64 len]) ∧ Below w.heap.size w w' := by
  have HL := Lib.hid hL
  have HE := Lib.hid hE
  have HR := Lib.hid hr
  have HI := Lib.hid hin
  have HH := Lib.hid hh
  have HLn := Lib.hid hl
  have HC := Lib.hid hc
  have HN0 : Hid (0 < way.length) := h0
  have HM := Lib.hid hm
  clear hL hE hr hin hh hl hc h0 hm
  go_enter Tryd.func76, Tryd.ntmps76
  go_wp2
  go_loopg [] way.length (fun g wr => ∃ (j off n c' : Nat), 1 ≤ n ∧ n ≤ 200 ∧ n ≤ c' ∧ Hid (g = n) ∧ Hid (Ext w wr ∧ LayAt wr w.heap.size L ∧ off = ow + j * 3 ∧ n = way.length - j ∧ c' = c - j ∧ j < way.length ∧ Own wr (w.heap.size + 1) [.slice (some ⟨bw, off, none⟩) n c', .int .i64 head, .int .i64 len] ∧ Own wr (w.heap.size + 1 + 1) [.slice none 0 0, .int .i64 0, .int .i64 0] ∧ trimB L.els way head len = trimB L.els (way.drop j) head len))
  case atStart =>
    exact ⟨0, ow, way.length, c, HN0.out, HM.out, HC.out, rfl, eal (eal (eal (Ext.refl _) _) _) _, (CellsAt.keep (CellsAt.new rfl) (eal (Ext.refl _) _)).keep (eal (Ext.refl _) _), by omega, by omega, by omega, HN0.out, (Own.new (by simp)).alloc _, Own.new (by simp), rfl⟩
  case round =>
    obtain ⟨j, off, n, c', hn1, hn2, hn3, HG, H⟩ := hrel
    obtain ⟨l0, a0, a1, a2, a3, a4, a5⟩ := layAt_cells H.out.2.1
    obtain ⟨o0, oc, of⟩ := H.out.2.2.2.2.2.2.1
    obtain ⟨p0, pc, pf⟩ := H.out.2.2.2.2.2.2.2.1
    have b0 := oc 0 _ rfl
    have b1 := oc 1 _ rfl
    have b2 := oc 2 _ rfl
    have f0 := of 0
    have r0 := pc 0 _ rfl
    have r1 := pc 1 _ rfl
    have r2 := pc 2 _ rfl
    have e0 := pf 0
    have e1 := pf 1
    have e2 := pf 2
    clear oc of pc pf
    by_cases k1 : 1 < n
    · have q1 : decide ((1 : Int) < (n : Int)) = true := decide_eq_true (by omega)
      have q1n : decide (1 < n) = true := decide_eq_true k1
      obtain ⟨bw', ow', s, hA', hs, hbs, s0, s1, s2⟩ := rd_st HR.out H.out.1 H.out.2.2.2.2.2.1
      cases hA'
      rw [← H.out.2.2.1] at s0 s1 s2
      have hsel := HI.out j s hs
      have HS := Lib.hid hs
      have hsb := len_bd HE.out hsel
      obtain ⟨zl, hzl⟩ : ∃ zl, zl = lenOf L.els s := ⟨_, rfl⟩
      rw [← hzl] at hsb
      have HZ := Lib.hid hzl
      have hrb := rear_bd HE.out (wayIn_drop HI.out j) (by rw [List.length_drop]; have := HM.out; omega) HH.out HLn.out
      obtain ⟨sv, hsv⟩ : ∃ sv, sv = strV L.els (way.drop j) head := ⟨_, rfl⟩
      rw [← hsv] at hrb
      have HSV := Lib.hid hsv
      have HLONG : Hid (∀ w' : World, Ext w w' → Calls Tryd.prog 68 #[.agg #[.string L.name, .slice L.aS L.secs.length L.cS, .slice L.aE L.els.length L.cE, .slice L.aJ L.jts.length L.cJ, .slice L.aG L.sgs.length L.cG, .slice L.aB L.bals.length L.cB], .agg #[.int .i64 s.el, .int .i64 s.in_, .int .i64 s.out_]] w' fun e w2 => e = .returned (.int .i64 zl) ∧ Below w'.heap.size w' w2) := fun w' h' => by
        have := rlong_any L s w' (HL.out.keep h') hsel
        rw [← hzl] at this; exact this
      have HSTR : Hid (∀ w' : World, Ext w w' → Calls Tryd.prog 52 #[.agg #[.string L.name, .slice L.aS L.secs.length L.cS, .slice L.aE L.els.length L.cE, .slice L.aJ L.jts.length L.cJ, .slice L.aG L.sgs.length L.cG, .slice L.aB L.bals.length L.cB], .agg #[.slice (some ⟨bw, off, none⟩) n c', .int .i64 head, .int .i64 len]] w' fun e w2 => e = .returned (.int .i64 sv) ∧ Below w'.heap.size w' w2) := fun w' h' => by
        have := rstretch_any L (some ⟨bw, ow + j * 3, none⟩) (way.drop j) c' head len w' (HL.out.keep h') HE.out (rd_drop (HR.out.keep h') j) (wayIn_drop HI.out j) (by rw [List.length_drop]; have := HM.out; omega) HH.out
        rw [List.length_drop, ← H.out.2.2.2.1, ← H.out.2.2.1, ← hsv] at this
        exact this
      have n1 : IntKind.i64.wrap (sv - zl) = sv - zl := IntWalk.i64_in _ (by omega)
      have hk1 : 1 < way.length - j := by have := H.out.2.2.2.1; omega
      have HK1 := Lib.hid hk1
      have hsl := fun w => sl_stl bw off n c' 1 1 rfl (by omega) (by omega) w
      have n0 : 0 < n := by omega
      obtain ⟨sel, sin, sout⟩ := s
      simp only [] at s0 s1 s2 HLONG
      clear hs hsel hsb hzl hrb hsv hk1
      by_cases k2 : len ≤ sv - zl
      · have q2 : decide (len ≤ sv - zl) = true := decide_eq_true k2
        have HGO := Lib.hid (trim_go HK1.out HS.out H.out.2.2.2.2.2.2.2.2 (by rw [← HZ.out]; unfold rearV; rw [← HSV.out]; omega))
        clear k2
        go_upto_region 1 with (fail)
        refine wp_region_after (by kernel_rfl) (by kernel_rfl) ?_
        repeat (first | go_big_quiet_step ((first | (go_at_call 52; exact after_call _ (HSTR.out _ (etr H.out.1 (After.is _)))) | (go_at_call 68; exact after_call _ (HLONG.out _ (etr H.out.1 (After.is _)))))))
        refine wpQuiet_nil ?_
        rintro _ ⟨y1, rfl⟩
        have HO1 := Lib.hid (H.out.2.2.2.2.2.2.1.keep y1.is)
        have HO2 := Lib.hid (H.out.2.2.2.2.2.2.2.1.keep y1.is)
        go_wp2
        go_roundg (n - 1)
        case measure => have := HG.out; omega
        case rel =>
          have hb1 : w.heap.size < w.heap.size + 1 := by omega
          refine ⟨j + 1, _, n - 1, c' - 1, by omega, by omega, by omega, rfl, eset (etr H.out.1 y1.is) (by omega) _ _, (H.out.2.1.keep y1.is).only (Only.set _ _ _ _) (by omega), ?_, ?_, ?_, ?_, HO1.out.set 0 (by simp) _, HO2.out.only (Only.set _ _ _ _) (by omega), HGO.out.1⟩
          · have := H.out.2.2.1; omega
          · have := H.out.2.2.2.1; omega
          · have := H.out.2.2.2.2.1; omega
          · have := HK1.out; omega
      · have q2 : decide (len ≤ sv - zl) = false := decide_eq_false k2
        have HT : Hid (trimN L.els way head len = j) := trim_end (by have := HK1.out; omega) HS.out H.out.2.2.2.2.2.2.2.2 (.inr (by rw [← HZ.out]; unfold rearV; rw [← HSV.out]; omega))
        clear k2
        go_upto_region 1 with (fail)
        refine wp_region_after (by kernel_rfl) (by kernel_rfl) ?_
        repeat (first | go_big_quiet_step ((first | (go_at_call 52; exact after_call _ (HSTR.out _ (etr H.out.1 (After.is _)))) | (go_at_call 68; exact after_call _ (HLONG.out _ (etr H.out.1 (After.is _)))))))
        refine wpQuiet_nil ?_
        rintro _ ⟨y1, rfl⟩
        have z1 : w.heap.size + 1 < y1.val.heap.size := lt_keep o0 y1.is
        have z2 : w.heap.size + 1 + 1 < y1.val.heap.size := lt_keep p0 y1.is
        go_wp2
        (try simp only [Exit.inBlock, Exit.then])
        refine bodyPost_ret (v := .agg #[.slice (some ⟨bw, off, none⟩) n c', .int .i64 head, .int .i64 len]) (by simp [results, Tryd.results76, go_sem, o0, p0, z1, z2, b0, b1, b2, r0, r1, r2, e0, e1, e2]) rfl ⟨?_, eset (eset (eset (etr H.out.1 y1.is) (by omega) _ _) (by omega) _ _) (by omega) _ _⟩
        rw [HT.out, H.out.2.2.1, H.out.2.2.2.1, H.out.2.2.2.2.1]
    · have q1 : decide ((1 : Int) < (n : Int)) = false := decide_eq_false (by omega)
      have q1n : decide (1 < n) = false := decide_eq_false k1
      obtain ⟨s, hs⟩ : ∃ s, way[j]? = some s := ⟨_, List.getElem?_eq_getElem H.out.2.2.2.2.2.1⟩
      have HT : Hid (trimN L.els way head len = j) := trim_end (by have := H.out.2.2.2.2.2.1; omega) hs H.out.2.2.2.2.2.2.2.2 (.inl (by have := H.out.2.2.2.1; omega))
      clear k1 hs
      go_upto_region 1 with (fail)
      refine wp_region_after (by kernel_rfl) (by kernel_rfl) ?_
      repeat (first | go_big_quiet_step (fail))
      refine wpQuiet_nil ?_
      rintro _ ⟨y1, rfl⟩
      have z1 : w.heap.size + 1 < y1.val.heap.size := lt_keep o0 y1.is
      have z2 : w.heap.size + 1 + 1 < y1.val.heap.size := lt_keep p0 y1.is
      go_wp2
      (try simp only [Exit.inBlock, Exit.then])
      refine bodyPost_ret (v := .agg #[.slice (some ⟨bw, off, none⟩) n c', .int .i64 head, .int .i64 len]) (by simp [results, Tryd.results76, go_sem, o0, p0, z1, z2, b0, b1, b2, r0, r1, r2, e0, e1, e2]) rfl ⟨?_, eset (eset (eset (etr H.out.1 y1.is) (by omega) _ _) (by omega) _ _) (by omega) _ _⟩
      rw [HT.out, H.out.2.2.1, H.out.2.2.2.1, H.out.2.2.2.2.1]
end
end Go.Proofs.YticonpjkcocgeaaDoor

set_option linter.unusedVariables false
set_option linter.unusedSimpArgs false
set_option maxRecDepth 100000
namespace Go.Proofs.YticonpjkcocgeaaDoor
open Go.ChangeShapes Go.WideShapes Go.ChangeAt Go.RowKit
open Sg

theorem join_has {els : List Elm} : ∀ {jts : List Jnt}, JtsOk els jts → ∀ (e f : Sg.End), joinO jts e = some f → hasEl els f.el
  | [], _, e, f, h => by simp [joinO] at h
  | j :: r, hJ, e, f, h => by
    have h0 := hJ 0 j rfl
    unfold joinO at h
    split at h
    · cases h; exact h0.2
    · split at h
      · cases h; exact h0.1
      · exact join_has (jts := r) (fun k x hx => hJ (k + 1) x (by simpa using hx)) e f h
def aheadS (els : List Elm) (jts : List Jnt) (pos : List Int) (l : List Stp) : Stp := (nextS els jts pos l).getD Stp.z
def aheadB (els : List Elm) (jts : List Jnt) (pos : List Int) (l : List Stp) : Bool := (nextS els jts pos l).isSome
/-- What the reference gives, possible or not. -/
noncomputable def entS (els : List Elm) (jts : List Jnt) (pos : List Int) (l : List Stp) : Stp := match joinO jts (nextE (lastS l)) with
  | none => Stp.z
  | some e => ⟨e.el, e.side, outV (elAt els e.el).kind e.side (posAt pos e.el)⟩
theorem next_none {els : List Elm} {jts : List Jnt} {pos : List Int} {l : List Stp} (h : joinO jts (nextE (lastS l)) = none) : nextS els jts pos l = none ∧ entS els jts pos l = Stp.z := by
  constructor
  · unfold nextS; unfold nextE at h; rw [h]
  · unfold entS; rw [h]
theorem next_cov {els : List Elm} {jts : List Jnt} {pos : List Int} {l : List Stp} {e : Sg.End} (h : joinO jts (nextE (lastS l)) = some e) (hc : covB l e.el = true) : nextS els jts pos l = none := by
  unfold nextS; unfold nextE at h; rw [h]; simp only; rw [if_pos hc]
theorem next_out {els : List Elm} {jts : List Jnt} {pos : List Int} {l : List Stp} {e : Sg.End} {pv : Int} {x : Elm} (h : joinO jts (nextE (lastS l)) = some e) (hc : covB l e.el = false) (hp : pv = posAt pos e.el) (hx : elAt els e.el = x) :
    nextS els jts pos l = if outB x.kind e.side pv = true then some ⟨e.el, e.side, outV x.kind e.side pv⟩ else none := by
  unfold nextS; unfold nextE at h; rw [h]; simp only; rw [if_neg (by rw [hc]; simp), hx, ← hp]
  unfold outB outV
  cases outO x.kind e.side pv <;> rfl
theorem ent_some {els : List Elm} {jts : List Jnt} {pos : List Int} {l : List Stp} {e : Sg.End} {pv : Int} {x : Elm} (h : joinO jts (nextE (lastS l)) = some e) (hp : pv = posAt pos e.el) (hx : elAt els e.el = x) : entS els jts pos l = ⟨e.el, e.side, outV x.kind e.side pv⟩ := by
  unfold entS; rw [h]; simp only; rw [hx, ← hp]
theorem secV_has {els : List Elm} {el : Int} {x : Elm} (h : hasEl els el) (hx : elAt els el = x) : secV els el = x.sec := by
  unfold secV; rw [if_pos (by simp [hasB, h]), hx]
theorem ret_ss {s t : Stp} {a b : Bool} (h : s = t) (g : a = b) : Ending.returned (.tuple #[.agg #[.int .i64 s.el, .int .i64 s.in_, .int .i64 s.out_], .bool a]) = .returned (.tuple #[.agg #[.int .i64 t.el, .int .i64 t.in_, .int .i64 t.out_], .bool b]) := by rw [h, g]
theorem aheadB_none {els : List Elm} {jts : List Jnt} {pos : List Int} {l : List Stp} (h : nextS els jts pos l = none) : Stp.z = aheadS els jts pos l ∧ false = aheadB els jts pos l := by unfold aheadS aheadB; rw [h]; exact ⟨rfl, rfl⟩
theorem aheadB_some {els : List Elm} {jts : List Jnt} {pos : List Int} {l : List Stp} {s : Stp} (h : nextS els jts pos l = some s) : s = aheadS els jts pos l ∧ true = aheadB els jts pos l := by unfold aheadS aheadB; rw [h]; exact ⟨rfl, rfl⟩
section
set_option maxHeartbeats 16000000
theorem ahead_any (L : Lay) (Ap : Option Addr) (pos : List Int) (cp : Nat) (A : Option Addr) (way : List Stp) (c : Nat) (head len : Int) (w : World) (hL : LayOk w L) (hT : Tabs w) (hE : ElsOk L.els) (hJ : JtsOk L.els L.jts) (hr : Rd w A 3 Stc way) (hp : RdI w Ap pos) (hpm : pos.length ≤ maxLen) (hm : way.length ≤ 200) (h0 : 0 < way.length) : Calls Tryd.prog 32 #[.agg #[.string L.name, .slice L.aS L.secs.length L.cS, .slice L.aE L.els.length L.cE, .slice L.aJ L.jts.length L.cJ, .slice L.aG L.sgs.length L.cG, .slice L.aB L.bals.length L.cB], .slice Ap pos.length cp, .agg #[.slice A way.length c, .int .i64 head, .int .i64 len]] w fun e w' => e = .returned (.tuple #[.agg #[.int .i64 (aheadS L.els L.jts pos way).el, .int .i64 (aheadS L.els L.jts pos way).in_, .int .i64 (aheadS L.els L.jts pos way).out_], .bool (aheadB L.els L.jts pos way)]) ∧ Below w.heap.size w w' := by
  have HL := Lib.hid hL
  have HE := Lib.hid hE
  have HJ := Lib.hid hJ
  have HR := Lib.hid hr
  have HP := Lib.hid hp
  have HPM := Lib.hid hpm
  have hmm : way.length ≤ maxLen := by unfold maxLen; omega
  have HM := Lib.hid hmm
  have HN0 : Hid (0 < way.length) := h0
  have HT := Lib.hid hT
  clear hT
  obtain ⟨e, he⟩ : ∃ e, e = joinV L.jts (nextE (lastS way)) := ⟨_, rfl⟩
  obtain ⟨jb, hjb⟩ : ∃ jb, jb = joinB L.jts (nextE (lastS way)) := ⟨_, rfl⟩
  have HEV := Lib.hid he
  have HJB := Lib.hid hjb
  obtain ⟨ls, hls⟩ : ∃ ls, ls = lastS way := ⟨_, rfl⟩
  have HLS := Lib.hid hls
  have HLAST : Hid (∀ w' : World, Ext w w' → Calls Tryd.prog 31 #[.agg #[.slice A way.length c, .int .i64 head, .int .i64 len]] w' fun e w2 => e = .returned (.agg #[.int .i64 ls.el, .int .i64 ls.in_, .int .i64 ls.out_]) ∧ Below w'.heap.size w' w2) := fun w' h' => by
    have := last_any A way c head len w' (HR.out.keep h') HN0.out HM.out
    rw [← hls] at this; exact this
  have HNEXT : Hid (∀ w' : World, Ext w w' → Calls Tryd.prog 61 #[.agg #[.string L.name, .slice L.aS L.secs.length L.cS, .slice L.aE L.els.length L.cE, .slice L.aJ L.jts.length L.cJ, .slice L.aG L.sgs.length L.cG, .slice L.aB L.bals.length L.cB], .agg #[.int .i64 ls.el, .int .i64 ls.in_, .int .i64 ls.out_]] w' fun r w2 => r = .returned (.tuple #[.agg #[.int .i64 e.el, .int .i64 e.side], .bool jb]) ∧ Below w'.heap.size w' w2) := fun w' h' => by
    have := next_any L ls w' (HL.out.keep h')
    rw [hls, ← he, ← hjb, ← hls] at this; exact this
  obtain ⟨cs, hcs⟩ : ∃ cs, cs = covS way e.el := ⟨_, rfl⟩
  obtain ⟨cb, hcb⟩ : ∃ cb, cb = covB way e.el := ⟨_, rfl⟩
  have HCB := Lib.hid hcb
  have HCOV : Hid (∀ w' : World, Ext w w' → Calls Tryd.prog 63 #[.agg #[.slice A way.length c, .int .i64 head, .int .i64 len], .int .i64 e.el] w' fun r w2 => r = .returned (.tuple #[.agg #[.int .i64 cs.el, .int .i64 cs.in_, .int .i64 cs.out_], .bool cb]) ∧ Below w'.heap.size w' w2) := fun w' h' => by
    have := cov_any A way c head len e.el w' (HR.out.keep h') HM.out
    rw [← hcs, ← hcb] at this; exact this
  have hmE := HL.out.lE
  unfold maxLen at hmE
  obtain ⟨el, sd⟩ := e
  simp only [] at HNEXT HCOV
  clear hL hE hJ hr hp hpm hmm h0 he hjb hls hcs hcb
  go_enter Tryd.func32, Tryd.ntmps32
  go_upto_region 1 with (fail)
  refine wp_region_monoB [0, 1, 2, 3, 4, 5, 6] 3 (by kernel_rfl) (by kernel_rfl) (fun _ _ d _ _ h => by cases d <;> exact h) (by kernel_rfl) (by kernel_rfl) ?_
  repeat (refine wpE_step rfl (fun K hK => ?_); go_simp; (first
    | (refine hK _ ?_; clear hK K)
    | (apply Exists.intro
       refine ⟨fun x => ?_, hK _ ?_⟩
       (first | (go_at_call 31; exact HLAST.out _ (etr (eal (eal (eal (Ext.refl _) _) _) _) x.is)) | (go_at_call 61; exact HNEXT.out _ (etr (eal (eal (eal (Ext.refl _) _) _) _) x.is)))
       clear hK K)))
  refine wpE_nil ?_
  intro x
  refine wpAnyB_ready (rs := [7]) (by kernel_rfl) (by simp) (AllB.cons rfl (fun K hK => ?_) AllB.nil)
  go_simp
  refine hK _ _ (ext_below (eal (Ext.refl _) _) (esz x.is)) (fun z => ?_)
  clear hK K
  have Oz := Lib.hid ((Own.new (w := x.val) (cs := #[.int .i64 0, .int .i64 0]) (t := 110) rfl).keep z.is)
  have sx := x.is.size
  refine wpAnyB_ready (rs := [8]) (by kernel_rfl) (by simp) (AllB.cons rfl (fun K hK => ?_) AllB.nil)
  rw [if_pos (by rfl)]
  refine wpo_stN 110 [.int .i64 el, .int .i64 sd] [.int .i64 el, .int .i64 sd] rfl rfl (Oz.out) rfl szEnd rfl (by show (0 + 2 : Nat) ≤ 2; decide) rfl ?_; intro w4 H4
  refine hK _ _ (Below.only (Below.refl _ _) H4.out.2 sx) (fun z4 => ?_)
  clear hK K
  refine wpAnyB_ready (rs := [9]) (by kernel_rfl) (by simp) (AllB.cons rfl (fun K hK => ?_) AllB.nil)
  go_simp
  refine hK _ _ (Below.refl _ _) (fun z5 => ?_)
  clear hK K
  refine wpAnyB_done (by kernel_rfl) ?_ _
  obtain ⟨b8, hb8⟩ : ∃ b8, b8 = x.val.heap.size := ⟨_, rfl⟩
  have LX : Hid (LayAt x.val w.heap.size L) := CellsAt.keep (CellsAt.keep (CellsAt.keep (CellsAt.new rfl) (eal (Ext.refl _) _)) (eal (Ext.refl _) _)) x.is
  have BX : Hid (BdyAt x.val (w.heap.size + 1) A way c head len) := CellsAt.keep (CellsAt.keep (CellsAt.new (by simp)) (eal (Ext.refl _) _)) x.is
  have OX : Hid (Own x.val (w.heap.size + 1 + 1) [.int .i64 0, .int .i64 0, .int .i64 0]) := Own.keep (Own.new (by simp)) x.is
  have hx8 : w.heap.size + 1 + 1 < b8 := by have h := x.is.size; simp at h; omega
  rw [← hb8] at H4 ⊢
  obtain ⟨wz, hwz⟩ : ∃ wz, wz = z5.val := ⟨_, rfl⟩
  have EZ : Hid (Ext x.val wz) := hwz ▸ etr (etr (eonly (etr (eal (Ext.refl _) _) z.is) H4.out.2 (by omega)) z4.is) z5.is
  have OE : Hid (Own wz b8 [.int .i64 el, .int .i64 sd]) := hwz ▸ (H4.out.1.keep z4.is).keep z5.is
  have EW : Hid (Ext w wz) := etr (etr (eal (eal (eal (Ext.refl _) _) _) _) x.is) EZ.out
  have LZ : Hid (LayAt wz w.heap.size L) := LX.out.keep EZ.out
  have BZ : Hid (BdyAt wz (w.heap.size + 1) A way c head len) := BX.out.keep EZ.out
  have OZ : Hid (Own wz (w.heap.size + 1 + 1) [.int .i64 0, .int .i64 0, .int .i64 0]) := OX.out.keep EZ.out
  rw [← hwz]
  clear hwz z z4 z5 Oz H4 sx LX BX OX EZ hb8 w4 x
  clear HNEXT HLAST
  cases hq : joinO L.jts (nextE (lastS way)) with
  | none =>
    have HN := Lib.hid (next_none (els := L.els) (pos := pos) hq)
    have hjb := HJB.out
    rw [joinB, hq] at hjb
    obtain rfl : jb = false := hjb
    clear hq
    obtain ⟨l0, a0, a1, a2, a3, a4, a5⟩ := layAt_cells LZ.out
    obtain ⟨b0, b1, b2, b3⟩ := bdyAt_cells BZ.out
    obtain ⟨o0, oc, of⟩ := OZ.out
    have z0 := oc 0 _ rfl
    have z1 := oc 1 _ rfl
    have z2 := oc 2 _ rfl
    have f0 := of 0
    have f1 := of 1
    have f2 := of 2
    obtain ⟨g0, gc, gf⟩ := OE.out
    have y0 := gc 0 _ rfl
    have y1 := gc 1 _ rfl
    clear oc of gc gf
    go_wp2
    (try simp only [Exit.inBlock, Exit.then])
    exact bodyPost_ret (v := .tuple #[.agg #[.int .i64 Stp.z.el, .int .i64 Stp.z.in_, .int .i64 Stp.z.out_], .bool false]) (by simp [results, Tryd.results32, go_sem, o0, z0, z1, z2, f0, f1, f2, Stp.z]) rfl ⟨ret_ss (aheadB_none HN.out.1).1 (aheadB_none HN.out.1).2, eset (eset (eset EW.out (by omega) _ _) (by omega) _ _) (by omega) _ _⟩
  | some e =>
    have hee : e = ⟨el, sd⟩ := by have := HEV.out; rw [joinV, hq] at this; exact this.symm
    subst hee
    have hjb := HJB.out
    rw [joinB, hq] at hjb
    obtain rfl : jb = true := hjb
    have hel := join_has HJ.out _ _ hq
    obtain ⟨kE, y, hk, hy, hye⟩ := has_at hel
    have hk : el = (kE : Int) := hk
    subst hk
    have hye : elAt L.els (kE : Int) = y := hye
    have hyb := HE.out kE y hy
    have hkE := (List.getElem?_eq_some_iff.1 hy).1
    obtain ⟨bE, oE, hAE⟩ := aE_some HL.out hel
    have HAE := Lib.hid hAE
    have HQ := Lib.hid hq
    have HY := Lib.hid hy
    have HYE := Lib.hid hye
    obtain ⟨pv, hpv⟩ : ∃ pv, pv = posAt pos (kE : Int) := ⟨_, rfl⟩
    have HPV := Lib.hid hpv
    have cell : ∀ wr : World, Ext w wr → bE < wr.heap.size ∧ wr.cell? ⟨bE, oE + kE * 7 + 1, none⟩ = some (.int .i64 y.kind) ∧ wr.cell? ⟨bE, oE + kE * 7 + 1 + 1, none⟩ = some (.int .i64 y.len) := fun wr hwr => by
      obtain ⟨bE', oE', z', hA', hz', h0, _, h1, h2, _⟩ := rd_el HL.out.hE hwr hkE
      rw [hAE] at hA'
      cases hA'
      rw [hy] at hz'
      cases hz'
      exact ⟨h0, h1, h2⟩
    have HCELL := Lib.hid cell
    have HSECT : Hid (∀ w' : World, Ext w w' → Calls Tryd.prog 62 #[.agg #[.string L.name, .slice L.aS L.secs.length L.cS, .slice L.aE L.els.length L.cE, .slice L.aJ L.jts.length L.cJ, .slice L.aG L.sgs.length L.cG, .slice L.aB L.bals.length L.cB], .int .i64 (kE : Int)] w' fun r w2 => r = .returned (.int .i64 y.sec) ∧ Below w'.heap.size w' w2) := fun w' h' => by
      have := sect_any L (kE : Int) w' (HL.out.keep h')
      rw [secV_has hel hye] at this; exact this
    rw [hAE] at HSECT
    have qs : decide (y.sec < 0) = false := decide_eq_false (by have := hyb.2.2.2.2.2.2; omega)
    have ql : decide (y.len < 1) = false := decide_eq_false (by have := hyb.2.2.1; omega)
    obtain ⟨ov, hov⟩ : ∃ ov, ov = outV y.kind sd pv := ⟨_, rfl⟩
    obtain ⟨ob, hob⟩ : ∃ ob, ob = outB y.kind sd pv := ⟨_, rfl⟩
    have HOV := Lib.hid hov
    have HOB := Lib.hid hob
    have HOUT : Hid (∀ w' : World, Ext w w' → Calls Tryd.prog 64 #[.int .i64 y.kind, .int .i64 sd, .int .i64 pv] w' fun r w2 => r = .returned (.tuple #[.int .i64 ov, .bool ob]) ∧ Below w'.heap.size w' w2) := fun w' h' => by
      have := out_any y.kind sd pv w' (HT.out.keep h')
      rw [← hov, ← hob] at this; exact this
    clear hq hel hy hye hyb hAE hpv cell hov hob
    obtain ⟨l0, a0, a1, a2, a3, a4, a5⟩ := layAt_cells LZ.out
    obtain ⟨b0, b1, b2, b3⟩ := bdyAt_cells BZ.out
    obtain ⟨o0, oc, of⟩ := OZ.out
    have z0 := oc 0 _ rfl
    have z1 := oc 1 _ rfl
    have z2 := oc 2 _ rfl
    have f0 := of 0
    have f1 := of 1
    have f2 := of 2
    obtain ⟨g0, gc, gf⟩ := OE.out
    have y0 := gc 0 _ rfl
    have y1 := gc 1 _ rfl
    clear oc of gc gf
    rw [HAE.out] at a2
    obtain ⟨m0, m1, m2⟩ := HCELL.out wz EW.out
    cases hcc : cb
    case true =>
      have HN : Hid (nextS L.els L.jts pos way = none) := next_cov HQ.out (by rw [← HCB.out]; exact hcc)
      subst hcc
      go_wp2_with (first | (go_at_call 62; refine (to_after (HSECT.out _ EW.out)).mono ?_; rintro e w' ⟨v, rfl, rfl⟩; have v0 := lt_keep l0 v.is; have v1 := lt_keep b0 v.is; have v2 := lt_keep o0 v.is; have v3 := lt_keep g0 v.is; have v4 := lt_keep m0 v.is) | (go_at_call 63; refine (to_after (HCOV.out _ (etr EW.out (After.is _)))).mono ?_; rintro e w' ⟨u, rfl, rfl⟩; have u0 := lt_keep v0 u.is; have u1 := lt_keep v1 u.is; have u2 := lt_keep v2 u.is; have u3 := lt_keep v3 u.is; have u4 := lt_keep v4 u.is; have XU := Lib.hid (etr (etr EW.out (After.is _)) u.is)))
      (try simp only [Exit.inBlock, Exit.then])
      exact bodyPost_ret (v := .tuple #[.agg #[.int .i64 Stp.z.el, .int .i64 Stp.z.in_, .int .i64 Stp.z.out_], .bool false]) (by simp [results, Tryd.results32, go_sem, o0, z0, z1, z2, f0, f1, f2, u2, v2, Stp.z]) rfl ⟨ret_ss (aheadB_none HN.out).1 (aheadB_none HN.out).2, eal (eset (eset (eset XU.out (by omega) _ _) (by omega) _ _) (by omega) _ _) _⟩
    have HNX := Lib.hid (next_out (els := L.els) (pos := pos) HQ.out (by rw [← HCB.out]; exact hcc) HPV.out HYE.out)
    subst hcc
    by_cases hin : kE < pos.length
    case pos =>
      have qp : decide ((kE : Int) < (pos.length : Int)) = true := decide_eq_true (by omega)
      have qpn : decide (kE < pos.length) = true := decide_eq_true hin
      obtain ⟨bp, op, hAp, hbp, hcp⟩ := HP.out (by omega)
      subst hAp
      have p0 := (EW.out.cell (p := ⟨bp, op + kE, none⟩) hbp).trans (hcp kE hin)
      have p1 := lt_keep hbp EW.out
      have hpv : pos.getD kE 0 = pv := by rw [HPV.out]; unfold posAt; rw [if_pos (by omega), Int.toNat_natCast]
      rw [hpv] at p0
      clear hpv hcp
      go_upto_region 10 with (first | (go_at_call 62; refine (to_after (HSECT.out _ EW.out)).mono ?_; rintro e w' ⟨v, rfl, rfl⟩; have v0 := lt_keep l0 v.is; have v1 := lt_keep b0 v.is; have v2 := lt_keep o0 v.is; have v3 := lt_keep g0 v.is; have v4 := lt_keep m0 v.is; have p2 := lt_keep p1 v.is) | (go_at_call 63; refine (to_after (HCOV.out _ (etr EW.out (After.is _)))).mono ?_; rintro e w' ⟨u, rfl, rfl⟩; have u0 := lt_keep v0 u.is; have u1 := lt_keep v1 u.is; have u2 := lt_keep v2 u.is; have u3 := lt_keep v3 u.is; have u4 := lt_keep v4 u.is; have XU := Lib.hid (etr (etr EW.out (After.is _)) u.is); have p3 := lt_keep p2 u.is; have p4 := lt_up p3))
      have s0 := lt_up u0
      have s1 := lt_up u1
      have s2 := lt_up u2
      have s3 := lt_up u3
      have s4 := lt_up u4
      refine wp_region_after (by kernel_rfl) (by kernel_rfl) ?_
      repeat (first | go_big_quiet_step ((first | (go_at_call 64; exact after_call _ (HOUT.out _ (etr (eal XU.out _) (After.is _)))))))
      refine wpQuiet_nil ?_
      rintro _ ⟨r, rfl⟩
      have r2 : w.heap.size + 1 + 1 < r.val.heap.size := by have h := r.is.size; simp at h; omega
      have r3 : b8 < r.val.heap.size := by have h := r.is.size; simp at h; omega
      cases hoo : ob
      case true =>
        have HN : Hid (nextS L.els L.jts pos way = some ⟨(kE : Int), sd, ov⟩) := by
          have := HNX.out
          rw [if_pos (by rw [← HOB.out]; exact hoo)] at this
          rw [HOV.out]; exact this
        subst hoo
        go_wp2
        (try simp only [Exit.inBlock, Exit.then])
        exact bodyPost_ret (v := .tuple #[.agg #[.int .i64 (Stp.mk (kE : Int) sd ov).el, .int .i64 (Stp.mk (kE : Int) sd ov).in_, .int .i64 (Stp.mk (kE : Int) sd ov).out_], .bool true]) (by simp [results, Tryd.results32, go_sem, o0, z0, z1, z2, f0, f1, f2, u2, v2, r2, s2]) rfl ⟨ret_ss (aheadB_some HN.out).1 (aheadB_some HN.out).2, eset (eset (eset (etr (eal XU.out _) r.is) (by omega) _ _) (by omega) _ _) (by omega) _ _⟩
      have HN : Hid (nextS L.els L.jts pos way = none) := by
        have := HNX.out
        rw [if_neg (by rw [← HOB.out, hoo]; simp)] at this
        exact this
      subst hoo
      go_wp2
      (try simp only [Exit.inBlock, Exit.then])
      exact bodyPost_ret (v := .tuple #[.agg #[.int .i64 Stp.z.el, .int .i64 Stp.z.in_, .int .i64 Stp.z.out_], .bool false]) (by simp [results, Tryd.results32, go_sem, o0, z0, z1, z2, f0, f1, f2, u2, v2, r2, s2, Stp.z]) rfl ⟨ret_ss (aheadB_none HN.out).1 (aheadB_none HN.out).2, eset (eset (eset (etr (eal XU.out _) r.is) (by omega) _ _) (by omega) _ _) (by omega) _ _⟩
    have qp : decide ((kE : Int) < (pos.length : Int)) = false := decide_eq_false (by omega)
    have qpn : decide (kE < pos.length) = false := decide_eq_false hin
    have hpv : pv = 0 := by rw [HPV.out]; unfold posAt; rw [if_neg (by omega)]
    subst hpv
    go_upto_region 10 with (first | (go_at_call 62; refine (to_after (HSECT.out _ EW.out)).mono ?_; rintro e w' ⟨v, rfl, rfl⟩; have v0 := lt_keep l0 v.is; have v1 := lt_keep b0 v.is; have v2 := lt_keep o0 v.is; have v3 := lt_keep g0 v.is; have v4 := lt_keep m0 v.is) | (go_at_call 63; refine (to_after (HCOV.out _ (etr EW.out (After.is _)))).mono ?_; rintro e w' ⟨u, rfl, rfl⟩; have u0 := lt_keep v0 u.is; have u1 := lt_keep v1 u.is; have u2 := lt_keep v2 u.is; have u3 := lt_keep v3 u.is; have u4 := lt_keep v4 u.is; have XU := Lib.hid (etr (etr EW.out (After.is _)) u.is)))
    have s0 := lt_up u0
    have s1 := lt_up u1
    have s2 := lt_up u2
    have s3 := lt_up u3
    have s4 := lt_up u4
    refine wp_region_after (by kernel_rfl) (by kernel_rfl) ?_
    repeat (first | go_big_quiet_step ((first | (go_at_call 64; exact after_call _ (HOUT.out _ (etr (eal XU.out _) (After.is _)))))))
    refine wpQuiet_nil ?_
    rintro _ ⟨r, rfl⟩
    have r2 : w.heap.size + 1 + 1 < r.val.heap.size := by have h := r.is.size; simp at h; omega
    have r3 : b8 < r.val.heap.size := by have h := r.is.size; simp at h; omega
    cases hoo : ob
    case true =>
      have HN : Hid (nextS L.els L.jts pos way = some ⟨(kE : Int), sd, ov⟩) := by
        have := HNX.out
        rw [if_pos (by rw [← HOB.out]; exact hoo)] at this
        rw [HOV.out]; exact this
      subst hoo
      go_wp2
      (try simp only [Exit.inBlock, Exit.then])
      exact bodyPost_ret (v := .tuple #[.agg #[.int .i64 (Stp.mk (kE : Int) sd ov).el, .int .i64 (Stp.mk (kE : Int) sd ov).in_, .int .i64 (Stp.mk (kE : Int) sd ov).out_], .bool true]) (by simp [results, Tryd.results32, go_sem, o0, z0, z1, z2, f0, f1, f2, u2, v2, r2, s2]) rfl ⟨ret_ss (aheadB_some HN.out).1 (aheadB_some HN.out).2, eset (eset (eset (etr (eal XU.out _) r.is) (by omega) _ _) (by omega) _ _) (by omega) _ _⟩
    have HN : Hid (nextS L.els L.jts pos way = none) := by
      have := HNX.out
      rw [if_neg (by rw [← HOB.out, hoo]; simp)] at this
      exact this
    subst hoo
    go_wp2
    (try simp only [Exit.inBlock, Exit.then])
    exact bodyPost_ret (v := .tuple #[.agg #[.int .i64 Stp.z.el, .int .i64 Stp.z.in_, .int .i64 Stp.z.out_], .bool false]) (by simp [results, Tryd.results32, go_sem, o0, z0, z1, z2, f0, f1, f2, u2, v2, r2, s2, Stp.z]) rfl ⟨ret_ss (aheadB_none HN.out).1 (aheadB_none HN.out).2, eset (eset (eset (etr (eal XU.out _) r.is) (by omega) _ _) (by omega) _ _) (by omega) _ _⟩
theorem enter_any (L : Lay) (Ap : Option Addr) (pos : List Int) (cp : Nat) (A : Option Addr) (way : List Stp) (c : Nat) (head len : Int) (w : World) (hL : LayOk w L) (hE : ElsOk L.els) (hJ : JtsOk L.els L.jts) (hr : Rd w A 3 Stc way) (hp : RdI w Ap pos) (hpm : pos.length ≤ maxLen) (hm : way.length ≤ 200) (h0 : 0 < way.length) : Calls Tryd.prog 77 #[.agg #[.string L.name, .slice L.aS L.secs.length L.cS, .slice L.aE L.els.length L.cE, .slice L.aJ L.jts.length L.cJ, .slice L.aG L.sgs.length L.cG, .slice L.aB L.bals.length L.cB], .slice Ap pos.length cp, .agg #[.slice A way.length c, .int .i64 head, .int .i64 len]] w fun e w' => e = .returned (.tuple #[.agg #[.int .i64 (entS L.els L.jts pos way).el, .int .i64 (entS L.els L.jts pos way).in_, .int .i64 (entS L.els L.jts pos way).out_], .bool (aheadB L.els L.jts pos way)]) ∧ Below w.heap.size w w' := by
  have HL := Lib.hid hL
  have HE := Lib.hid hE
  have HJ := Lib.hid hJ
  have HR := Lib.hid hr
  have HP := Lib.hid hp
  have HPM := Lib.hid hpm
  have hmm : way.length ≤ maxLen := by unfold maxLen; omega
  have HM := Lib.hid hmm
  have HN0 : Hid (0 < way.length) := h0
  obtain ⟨e, he⟩ : ∃ e, e = joinV L.jts (nextE (lastS way)) := ⟨_, rfl⟩
  obtain ⟨jb, hjb⟩ : ∃ jb, jb = joinB L.jts (nextE (lastS way)) := ⟨_, rfl⟩
  have HEV := Lib.hid he
  have HJB := Lib.hid hjb
  obtain ⟨ls, hls⟩ : ∃ ls, ls = lastS way := ⟨_, rfl⟩
  have HLS := Lib.hid hls
  have HNEXT : Hid (∀ w' : World, Ext w w' → Calls Tryd.prog 96 #[.agg #[.string L.name, .slice L.aS L.secs.length L.cS, .slice L.aE L.els.length L.cE, .slice L.aJ L.jts.length L.cJ, .slice L.aG L.sgs.length L.cG, .slice L.aB L.bals.length L.cB], .agg #[.int .i64 ls.el, .int .i64 ls.in_, .int .i64 ls.out_]] w' fun r w2 => r = .returned (.tuple #[.agg #[.int .i64 e.el, .int .i64 e.side], .bool jb]) ∧ Below w'.heap.size w' w2) := fun w' h' => by
    have := rnext_any L ls w' (HL.out.keep h')
    rw [hls, ← he, ← hjb, ← hls] at this; exact this
  obtain ⟨cs, hcs⟩ : ∃ cs, cs = covS way e.el := ⟨_, rfl⟩
  obtain ⟨cb, hcb⟩ : ∃ cb, cb = covB way e.el := ⟨_, rfl⟩
  have HCB := Lib.hid hcb
  have HCOV : Hid (∀ w' : World, Ext w w' → Calls Tryd.prog 99 #[.agg #[.slice A way.length c, .int .i64 head, .int .i64 len], .int .i64 e.el] w' fun r w2 => r = .returned (.tuple #[.agg #[.int .i64 cs.el, .int .i64 cs.in_, .int .i64 cs.out_], .bool cb]) ∧ Below w'.heap.size w' w2) := fun w' h' => by
    have := rcov_any A way c head len e.el w' (HR.out.keep h') HM.out
    rw [← hcs, ← hcb] at this; exact this
  obtain ⟨b, off, s, rfl, hs, hbl, c0, c1, c2⟩ := rd_st hr (Ext.refl w) (k := way.length - 1) (by omega)
  obtain rfl : s = ls := by have := lastS_get h0; rw [hs] at this; cases this; exact hls.symm
  have hbl1 : b < w.heap.size + 1 := by omega
  have hbl2 : b < w.heap.size + 1 + 1 := by omega
  have hbl3 : b < w.heap.size + 1 + 1 + 1 := by omega
  have n1 : IntKind.i64.wrap ((way.length : Int) - 1) = (way.length : Int) - 1 := IntWalk.i64_in _ (by omega)
  have n2 : ((way.length : Int) - 1).toNat = way.length - 1 := by omega
  have n3 : (0 : Int) ≤ (way.length : Int) - 1 := by omega
  have n4 : (way.length : Int) - 1 < (way.length : Int) := by omega
  have n5 : (1 : Int) ≤ (way.length : Int) := by omega
  have n6 : 1 ≤ way.length := by omega
  have n7 : way.length - 1 < way.length := by omega
  clear hs
  have hmE := HL.out.lE
  unfold maxLen at hmE
  obtain ⟨el, sd⟩ := e
  simp only [] at HNEXT HCOV
  clear hL hE hJ hr hp hpm hmm h0 he hjb hls hcs hcb
  go_enter Tryd.func77, Tryd.ntmps77
  go_upto_region 1 with (fail)
  refine wp_region_monoB [0, 1, 2, 3, 4, 5, 6, 7, 8, 9, 10, 11, 12] 3 (by kernel_rfl) (by kernel_rfl) (fun _ _ d _ _ h => by cases d <;> exact h) (by kernel_rfl) (by kernel_rfl) ?_
  repeat (refine wpE_step rfl (fun K hK => ?_); go_simp; (first
    | (refine hK _ ?_; clear hK K)
    | (apply Exists.intro
       refine ⟨fun x => ?_, hK _ ?_⟩
       (first | (go_at_call 96; exact HNEXT.out _ (etr (eal (eal (eal (Ext.refl _) _) _) _) x.is)))
       clear hK K)))
  refine wpE_nil ?_
  intro x
  refine wpAnyB_ready (rs := [13]) (by kernel_rfl) (by simp) (AllB.cons rfl (fun K hK => ?_) AllB.nil)
  go_simp
  refine hK _ _ (ext_below (eal (Ext.refl _) _) (esz x.is)) (fun z => ?_)
  clear hK K
  have Oz := Lib.hid ((Own.new (w := x.val) (cs := #[.int .i64 0, .int .i64 0]) (t := 110) rfl).keep z.is)
  have sx := x.is.size
  refine wpAnyB_ready (rs := [14]) (by kernel_rfl) (by simp) (AllB.cons rfl (fun K hK => ?_) AllB.nil)
  rw [if_pos (by rfl)]
  refine wpo_stN 110 [.int .i64 el, .int .i64 sd] [.int .i64 el, .int .i64 sd] rfl rfl (Oz.out) rfl szEnd rfl (by show (0 + 2 : Nat) ≤ 2; decide) rfl ?_; intro w4 H4
  refine hK _ _ (Below.only (Below.refl _ _) H4.out.2 sx) (fun z4 => ?_)
  clear hK K
  refine wpAnyB_ready (rs := [15]) (by kernel_rfl) (by simp) (AllB.cons rfl (fun K hK => ?_) AllB.nil)
  go_simp
  refine hK _ _ (Below.refl _ _) (fun z5 => ?_)
  clear hK K
  refine wpAnyB_done (by kernel_rfl) ?_ _
  obtain ⟨b8, hb8⟩ : ∃ b8, b8 = x.val.heap.size := ⟨_, rfl⟩
  have LX : Hid (LayAt x.val w.heap.size L) := CellsAt.keep (CellsAt.keep (CellsAt.keep (CellsAt.new rfl) (eal (Ext.refl _) _)) (eal (Ext.refl _) _)) x.is
  have BX : Hid (BdyAt x.val (w.heap.size + 1) (some ⟨b, off, none⟩) way c head len) := CellsAt.keep (CellsAt.keep (CellsAt.new (by simp)) (eal (Ext.refl _) _)) x.is
  have OX : Hid (Own x.val (w.heap.size + 1 + 1) [.int .i64 0, .int .i64 0, .int .i64 0]) := Own.keep (Own.new (by simp)) x.is
  have hx8 : w.heap.size + 1 + 1 < b8 := by have h := x.is.size; simp at h; omega
  rw [← hb8] at H4 ⊢
  obtain ⟨wz, hwz⟩ : ∃ wz, wz = z5.val := ⟨_, rfl⟩
  have EZ : Hid (Ext x.val wz) := hwz ▸ etr (etr (eonly (etr (eal (Ext.refl _) _) z.is) H4.out.2 (by omega)) z4.is) z5.is
  have OE : Hid (Own wz b8 [.int .i64 el, .int .i64 sd]) := hwz ▸ (H4.out.1.keep z4.is).keep z5.is
  have EW : Hid (Ext w wz) := etr (etr (eal (eal (eal (Ext.refl _) _) _) _) x.is) EZ.out
  have LZ : Hid (LayAt wz w.heap.size L) := LX.out.keep EZ.out
  have BZ : Hid (BdyAt wz (w.heap.size + 1) (some ⟨b, off, none⟩) way c head len) := BX.out.keep EZ.out
  have OZ : Hid (Own wz (w.heap.size + 1 + 1) [.int .i64 0, .int .i64 0, .int .i64 0]) := OX.out.keep EZ.out
  rw [← hwz]
  clear hwz z z4 z5 Oz H4 sx LX BX OX EZ hb8 w4 x
  clear HNEXT
  clear c0 c1 c2 n1 n2 n3 n4 n5 n6 n7 hbl1 hbl2 hbl3
  cases hq : joinO L.jts (nextE (lastS way)) with
  | none =>
    have HN := Lib.hid (next_none (els := L.els) (pos := pos) hq)
    have hjb := HJB.out
    rw [joinB, hq] at hjb
    obtain rfl : jb = false := hjb
    clear hq
    obtain ⟨l0, a0, a1, a2, a3, a4, a5⟩ := layAt_cells LZ.out
    obtain ⟨b0, b1, b2, b3⟩ := bdyAt_cells BZ.out
    obtain ⟨o0, oc, of⟩ := OZ.out
    have z0 := oc 0 _ rfl
    have z1 := oc 1 _ rfl
    have z2 := oc 2 _ rfl
    have f0 := of 0
    have f1 := of 1
    have f2 := of 2
    obtain ⟨g0, gc, gf⟩ := OE.out
    have y0 := gc 0 _ rfl
    have y1 := gc 1 _ rfl
    clear oc of gc gf
    go_wp2
    (try simp only [Exit.inBlock, Exit.then])
    exact bodyPost_ret (v := .tuple #[.agg #[.int .i64 Stp.z.el, .int .i64 Stp.z.in_, .int .i64 Stp.z.out_], .bool false]) (by simp [results, Tryd.results77, go_sem, o0, z0, z1, z2, f0, f1, f2, Stp.z]) rfl ⟨ret_ss HN.out.2.symm (aheadB_none HN.out.1).2, eset (eset (eset EW.out (by omega) _ _) (by omega) _ _) (by omega) _ _⟩
  | some e =>
    have hee : e = ⟨el, sd⟩ := by have := HEV.out; rw [joinV, hq] at this; exact this.symm
    subst hee
    have hjb := HJB.out
    rw [joinB, hq] at hjb
    obtain rfl : jb = true := hjb
    have hel := join_has HJ.out _ _ hq
    obtain ⟨kE, y, hk, hy, hye⟩ := has_at hel
    have hk : el = (kE : Int) := hk
    subst hk
    have hye : elAt L.els (kE : Int) = y := hye
    have hyb := HE.out kE y hy
    have hkE := (List.getElem?_eq_some_iff.1 hy).1
    obtain ⟨bE, oE, hAE⟩ := aE_some HL.out hel
    have HAE := Lib.hid hAE
    have HQ := Lib.hid hq
    have HY := Lib.hid hy
    have HYE := Lib.hid hye
    obtain ⟨pv, hpv⟩ : ∃ pv, pv = posAt pos (kE : Int) := ⟨_, rfl⟩
    have HPV := Lib.hid hpv
    have cell : ∀ wr : World, Ext w wr → bE < wr.heap.size ∧ wr.cell? ⟨bE, oE + kE * 7 + 1, none⟩ = some (.int .i64 y.kind) ∧ wr.cell? ⟨bE, oE + kE * 7 + 1 + 1, none⟩ = some (.int .i64 y.len) := fun wr hwr => by
      obtain ⟨bE', oE', z', hA', hz', h0, _, h1, h2, _⟩ := rd_el HL.out.hE hwr hkE
      rw [hAE] at hA'
      cases hA'
      rw [hy] at hz'
      cases hz'
      exact ⟨h0, h1, h2⟩
    have HCELL := Lib.hid cell
    obtain ⟨ov, hov⟩ : ∃ ov, ov = outV y.kind sd pv := ⟨_, rfl⟩
    obtain ⟨ob, hob⟩ : ∃ ob, ob = outB y.kind sd pv := ⟨_, rfl⟩
    have HOV := Lib.hid hov
    have HOB := Lib.hid hob
    have HOUT : Hid (∀ w' : World, Ext w w' → Calls Tryd.prog 100 #[.int .i64 y.kind, .int .i64 sd, .int .i64 pv] w' fun r w2 => r = .returned (.tuple #[.int .i64 ov, .bool ob]) ∧ Below w'.heap.size w' w2) := fun w' h' => by
      have := rout_any y.kind sd pv w'
      rw [← hov, ← hob] at this; exact this
    have HPOS : Hid (∀ w' : World, Ext w w' → Calls Tryd.prog 101 #[.slice Ap pos.length cp, .int .i64 (kE : Int)] w' fun r w2 => r = .returned (.int .i64 pv) ∧ Below w'.heap.size w' w2) := fun w' h' => by
      have := pos_any Ap pos cp (kE : Int) w' (HP.out.below h' (Nat.le_refl _)) (by omega) HPM.out
      rw [← hpv] at this; exact this
    clear hq hel hy hye hyb hAE hpv cell hov hob
    obtain ⟨l0, a0, a1, a2, a3, a4, a5⟩ := layAt_cells LZ.out
    obtain ⟨b0, b1, b2, b3⟩ := bdyAt_cells BZ.out
    obtain ⟨o0, oc, of⟩ := OZ.out
    have z0 := oc 0 _ rfl
    have z1 := oc 1 _ rfl
    have z2 := oc 2 _ rfl
    have f0 := of 0
    have f1 := of 1
    have f2 := of 2
    obtain ⟨g0, gc, gf⟩ := OE.out
    have y0 := gc 0 _ rfl
    have y1 := gc 1 _ rfl
    clear oc of gc gf
    rw [HAE.out] at a2
    obtain ⟨m0, m1, m2⟩ := HCELL.out wz EW.out
    go_upto_region 5 with (go_at_call 99; refine (to_after (HCOV.out _ EW.out)).mono ?_; rintro e w' ⟨u, rfl, rfl⟩; have u0 := lt_keep l0 u.is; have u1 := lt_keep b0 u.is; have u2 := lt_keep o0 u.is; have u3 := lt_keep g0 u.is; have u4 := lt_keep m0 u.is; have XU := Lib.hid (etr EW.out u.is))
    have s0 := lt_up u0
    have s1 := lt_up u1
    have s2 := lt_up u2
    have s3 := lt_up u3
    have s4 := lt_up u4
    refine wp_region_after (by kernel_rfl) (by kernel_rfl) ?_
    repeat (first | go_big_quiet_step ((first | (go_at_call 100; exact after_call _ (HOUT.out _ (etr (eal XU.out _) (After.is _)))) | (go_at_call 101; exact after_call _ (HPOS.out _ (etr (eal XU.out _) (After.is _)))))))
    refine wpQuiet_nil ?_
    rintro _ ⟨r, rfl⟩
    have r2 : w.heap.size + 1 + 1 < r.val.heap.size := by have h := r.is.size; simp at h; omega
    have r3 : b8 < r.val.heap.size := by have h := r.is.size; simp at h; omega
    have HEN : Hid ((⟨(kE : Int), sd, ov⟩ : Stp) = entS L.els L.jts pos way) := by
      have := ent_some (els := L.els) (pos := pos) HQ.out HPV.out HYE.out
      rw [HOV.out]; exact this.symm
    cases hoo : ob
    case false =>
      have HN : Hid (aheadB L.els L.jts pos way = false) := by
        show _ = _
        unfold aheadB
        cases hcc : cb
        · rw [next_out HQ.out (by rw [← HCB.out]; exact hcc) HPV.out HYE.out, if_neg (by rw [← HOB.out, hoo]; simp)]; rfl
        · rw [next_cov HQ.out (by rw [← HCB.out]; exact hcc)]; rfl
      subst hoo
      go_wp2
      (try simp only [Exit.inBlock, Exit.then])
      exact bodyPost_ret (v := .tuple #[.agg #[.int .i64 (Stp.mk (kE : Int) sd ov).el, .int .i64 (Stp.mk (kE : Int) sd ov).in_, .int .i64 (Stp.mk (kE : Int) sd ov).out_], .bool false]) (by simp [results, Tryd.results77, go_sem, o0, z0, z1, z2, f0, f1, f2, u2, r2, s2]) rfl ⟨ret_ss HEN.out HN.out.symm, eset (eset (eset (etr (eal XU.out _) r.is) (by omega) _ _) (by omega) _ _) (by omega) _ _⟩
    cases hcc : cb
    case true =>
      have HN : Hid (aheadB L.els L.jts pos way = false) := by
        show _ = _
        unfold aheadB
        rw [next_cov HQ.out (by rw [← HCB.out]; exact hcc)]; rfl
      subst hoo hcc
      go_wp2
      (try simp only [Exit.inBlock, Exit.then])
      exact bodyPost_ret (v := .tuple #[.agg #[.int .i64 (Stp.mk (kE : Int) sd ov).el, .int .i64 (Stp.mk (kE : Int) sd ov).in_, .int .i64 (Stp.mk (kE : Int) sd ov).out_], .bool false]) (by simp [results, Tryd.results77, go_sem, o0, z0, z1, z2, f0, f1, f2, u2, r2, s2]) rfl ⟨ret_ss HEN.out HN.out.symm, eset (eset (eset (etr (eal XU.out _) r.is) (by omega) _ _) (by omega) _ _) (by omega) _ _⟩
    have HN : Hid (aheadB L.els L.jts pos way = true) := by
      show _ = _
      unfold aheadB
      rw [next_out HQ.out (by rw [← HCB.out]; exact hcc) HPV.out HYE.out, if_pos (by rw [← HOB.out]; exact hoo)]; rfl
    subst hoo hcc
    go_wp2
    (try simp only [Exit.inBlock, Exit.then])
    exact bodyPost_ret (v := .tuple #[.agg #[.int .i64 (Stp.mk (kE : Int) sd ov).el, .int .i64 (Stp.mk (kE : Int) sd ov).in_, .int .i64 (Stp.mk (kE : Int) sd ov).out_], .bool true]) (by simp [results, Tryd.results77, go_sem, o0, z0, z1, z2, f0, f1, f2, u2, r2, s2]) rfl ⟨ret_ss HEN.out HN.out.symm, eset (eset (eset (etr (eal XU.out _) r.is) (by omega) _ _) (by omega) _ _) (by omega) _ _⟩
end
end Go.Proofs.YticonpjkcocgeaaDoor
