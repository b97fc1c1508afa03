/- Walks of package speeds and of its reference: the reference's Permitted. -/
import Derived.Test.YthkknagicdanfaaWSpeeds3
set_option linter.unusedVariables false
set_option linter.unusedSimpArgs false
namespace Go.Proofs.Ythkknagicdanfaa
open Go.ChangeShapes Go.WideShapes Go.ChangeAt Go.RowKit
open Sg

/-- The accumulator of the reference's loop. -/
noncomputable def accV (base dec delay m : Int) (p : List Sgm) : Int := minL base (ahdL dec delay m p)
theorem accV_take {p : List Sgm} {k : Nat} {s : Sgm} (base dec delay m : Int) (h : p[k]? = some s) : accV base dec delay m (p.take (k + 1)) = if m < s.from_ then min (accV base dec delay m (p.take k)) (towV (s.from_ - m) s.speed dec delay) else accV base dec delay m (p.take k) := by
  unfold accV
  rw [ahdL_take dec delay m h]
  by_cases c : m < s.from_
  · rw [if_pos c, if_pos c, minL_snoc]
  · rw [if_neg c, if_neg c, List.append_nil]
theorem accV_zero (base dec delay m : Int) (p : List Sgm) : accV base dec delay m (p.take 0) = base := rfl
set_option maxHeartbeats 16000000 in
theorem rperm_any (T : Tr) (E : Es) (sq en : Int) (A LA : Option Addr) (p : List Sgm) (cap ln lc : Nat) (w : World) (hm : p.length ≤ 1000000) (hn : NearB T E en) (hr : Rd w A 4 Sgc p) :
    Calls Try.prog 29 #[.agg #[.int .i64 T.id, .string T.name, .int .i64 T.len, .int .i64 T.speed, .int .i64 T.accel, .int .i64 T.service, .int .i64 T.emergency, .int .i64 T.delay, .int .i64 T.cons, .int .i64 T.rate], .agg #[.int .i64 sq, .int .i64 en, .slice A p.length cap, .slice LA ln lc], .agg #[.int .i64 E.min, .int .i64 E.max, .int .i64 E.speed]] w fun e w' => e = .returned (.int .i64 (permV T p E en)) ∧ Below w.heap.size w w' := by
  have HR := Lib.hid hr
  have HM : Hid (p.length ≤ maxLen) := by show _ ≤ _; unfold maxLen; omega
  have HM2 : Hid (p.length ≤ 1000000) := hm
  have HN := Lib.hid hn
  obtain ⟨⟨m1, m2⟩, ⟨m3, m4⟩, ⟨m5, m6⟩, _⟩ := hn
  have n1 : IntKind.i64.wrap (en - E.max) = en - E.max := IntWalk.i64_in _ (by omega)
  clear hr
  have HBX := Lib.hid (Boxed.mk' w T [.int .i64 sq, .int .i64 en, .slice A p.length cap, .slice LA ln lc] E)
  have HEX := Lib.hid (boxW_ext w T [.int .i64 sq, .int .i64 en, .slice A p.length cap, .slice LA ln lc] E)
  cases hv : validB p with
  | false =>
    have HE : Hid (permV T p E en = 0) := by show _ = _; rw [permV, hv]; rfl
    go_enter Try.func29, Try.ntmps29
    go_wp2_with (go_at_call 39; refine (to_after (rvalid_any A p cap _ HM.out (HR.out.keep HEX.out))).mono ?_; rintro e w' ⟨y, rfl, rfl⟩)
    go_ret
    exact ⟨ret_int HE.out.symm, eafter HEX.out y⟩
  | true =>
    have HD : Hid (decV T p E en = effV T.service (steepV p E.min en)) := rfl
    obtain ⟨dec, hdec⟩ : ∃ dec, dec = decV T p E en := ⟨_, rfl⟩
    have hdl : dec ≤ 9223372036854775807 := by rw [hdec]; exact decV_le _ _ _ _
    have HE : Hid (permV T p E en = accV (min (ceilV T p E) (stopV T dec E en)) dec T.delay E.max p) := by show _ = _; rw [permV, if_pos hv, hdec]; rfl
    rw [← hdec] at HD
    have HV := Lib.hid hv
    clear hv hdec
    obtain ⟨v1, v2⟩ := spdV_bd (en - E.max) dec T.delay
    have kk : (spdV (en - E.max) dec T.delay ≤ 0 ∧ ceilV T p E ≤ 0 ∧ min (ceilV T p E) (stopV T dec E en) = ceilV T p E) ∨ (spdV (en - E.max) dec T.delay ≤ 0 ∧ 0 < ceilV T p E ∧ min (ceilV T p E) (stopV T dec E en) = 0)
        ∨ (0 < spdV (en - E.max) dec T.delay ∧ ceilV T p E ≤ spdV (en - E.max) dec T.delay ∧ min (ceilV T p E) (stopV T dec E en) = ceilV T p E) ∨ (0 < spdV (en - E.max) dec T.delay ∧ spdV (en - E.max) dec T.delay < ceilV T p E ∧ min (ceilV T p E) (stopV T dec E en) = spdV (en - E.max) dec T.delay) := by unfold stopV; omega
    rcases kk with ⟨k1, k2, k3⟩ | ⟨k1, k2, k3⟩ | ⟨k1, k2, k3⟩ | ⟨k1, k2, k3⟩
    all_goals
      have HK := Lib.hid k3
      clear k3
      go_enter Try.func29, Try.ntmps29
      go_wp2_with fail
      refine (to_after (rvalid_any A p cap _ HM.out (HR.out.keep HEX.out))).mono ?_
      rintro e w' ⟨y, rfl, rfl⟩
      rw [HV.out]
      go_wp2_with fail
      have HB1 := HBX.out
      have zt := HB1.t.1
      have za := HB1.a.1
      have ze := HB1.e.1
      have u0 := HB1.t.2 0 _ rfl
      have u1 := HB1.t.2 1 _ rfl
      have u2 := HB1.t.2 2 _ rfl
      have u3 := HB1.t.2 3 _ rfl
      have u4 := HB1.t.2 4 _ rfl
      have u5 := HB1.t.2 5 _ rfl
      have u6 := HB1.t.2 6 _ rfl
      have u7 := HB1.t.2 7 _ rfl
      have u8 := HB1.t.2 8 _ rfl
      have u9 := HB1.t.2 9 _ rfl
      have b1 := HB1.a.2 2 _ rfl
      have b2 := HB1.a.2 1 _ rfl
      have b3 := HB1.e.2 0 _ rfl
      have b4 := HB1.e.2 1 _ rfl
      have b5 := HB1.e.2 2 _ rfl
      clear HB1
      refine wp_region_in y (by kernel_rfl) (by kernel_rfl) ?_
      repeat (first | go_big_quiet_step ((first
        | (go_at_call 31; exact after_call _ (rsteep_any _ p cap _ _ _ HM2.out (HR.out.keep (eafter HEX.out _))))
        | (go_at_call 30; exact after_same _ (reff_any _ _ _)))))
      refine wpQuiet_nil ?_
      rintro _ ⟨y2, rfl⟩
      rw [← HD.out]
      go_wp2_with fail
      refine wp_region_in y2 (by kernel_rfl) (by kernel_rfl) ?_
      repeat (first | go_big_quiet_step ((first
        | (go_at_call 49; exact after_call _ (rceil_any T E A p cap _ HM2.out HN.out.e1 HN.out.t (HR.out.keep (eafter HEX.out _))))
        | (go_at_call 50; exact after_same _ (rspeed_any (en - E.max) dec T.delay hdl _)))))
      refine wpQuiet_nil ?_
      rintro _ ⟨y3, rfl⟩
      have HX2 := Lib.hid (eafter HEX.out y3)
      have HB2 := Lib.hid (HBX.out.keep y3.is)
      obtain ⟨wl, hwl⟩ : ∃ wl, wl = y3.val := ⟨_, rfl⟩
      rw [← hwl] at HX2 HB2 ⊢
      clear hwl zt za ze u0 u1 u2 u3 u4 u5 u6 u7 u8 u9 b1 b2 b3 b4 b5
      obtain ⟨base, hbase⟩ : ∃ base, base = min (ceilV T p E) (stopV T dec E en) := ⟨_, rfl⟩
      rw [← hbase] at HE HK
      clear hbase
      clear v1 v2 k1 k2
      go_wp2
      go_loopg [8, 9] p.length (fun g u i wr => ∃ k : Nat, i = .int .i64 k ∧ k ≤ p.length ∧ g = p.length - k ∧ Hid (Ext wl wr ∧ u = .int .i64 (accV base dec T.delay E.max (p.take k))))
      case atStart => exact ⟨0, rfl, by omega, rfl, Ext.refl _, by rw [accV_zero, HK.out]⟩
      case round =>
        obtain ⟨k, rfl, hk, hg, H⟩ := hrel
        obtain ⟨hx, rfl⟩ := H.out
        have HX := Lib.hid hx
        have HG := Lib.hid hg
        clear hg H hx
        have HB3 := HB2.out.keep HX.out
        have t3 := HB3.t.1
        have t4 := HB3.a.1
        have t5 := HB3.e.1
        have g1 := HB3.a.2 2 _ rfl
        by_cases hlt : k < p.length
        · obtain ⟨b, off, s, rfl, hs, hbs, c0, c1, c2, c3⟩ := rd_seg HR.out (etr HX2.out HX.out) hlt
          have HT := Lib.hid (accV_take base dec T.delay E.max hs)
          obtain ⟨s1, s2, s3, s4, s5, s6, s7⟩ := seg_in HV.out hs
          have f1 := HB3.e.2 1 _ rfl
          have f2 := HB3.t.2 7 _ rfl
          clear hs HB3
          by_cases hc : E.max < s.from_
          · rcases Int.lt_or_le (towV (s.from_ - E.max) s.speed dec T.delay) (accV base dec T.delay E.max (p.take k)) with hl | hl
            · have HQ : Hid (accV base dec T.delay E.max (p.take (k + 1)) = towV (s.from_ - E.max) s.speed dec T.delay) := by show _ = _; rw [HT.out, if_pos hc]; omega
              go_wp2_with (go_at_call 51; refine (rtoward_any _ _ dec T.delay hdl _).mono ?_; rintro e w' ⟨rfl, rfl⟩)
              go_roundg (p.length - (k + 1))
              case measure => have := HG.out; omega
              case rel => exact ⟨k + 1, by go_num, by omega, rfl, eal HX.out _, by rw [HQ.out]⟩
            · have HQ : Hid (accV base dec T.delay E.max (p.take (k + 1)) = accV base dec T.delay E.max (p.take k)) := by show _ = _; rw [HT.out, if_pos hc]; omega
              go_wp2_with (go_at_call 51; refine (rtoward_any _ _ dec T.delay hdl _).mono ?_; rintro e w' ⟨rfl, rfl⟩)
              go_roundg (p.length - (k + 1))
              case measure => have := HG.out; omega
              case rel => exact ⟨k + 1, by go_num, by omega, rfl, eal HX.out _, by rw [HQ.out]⟩
          · have HQ : Hid (accV base dec T.delay E.max (p.take (k + 1)) = accV base dec T.delay E.max (p.take k)) := by show _ = _; rw [HT.out, if_neg hc]
            have hc' : decide (E.max < s.from_) = false := decide_eq_false hc
            go_wp2
            go_roundg (p.length - (k + 1))
            case measure => have := HG.out; omega
            case rel => exact ⟨k + 1, by go_num, by omega, rfl, eal HX.out _, by rw [HQ.out]⟩
        · have HQ : Hid (accV base dec T.delay E.max (p.take k) = permV T p E en) := by show _ = _; rw [HE.out, List.take_of_length_le (by omega)]
          go_wp2
          go_ret
          exact ⟨ret_int HQ.out, etr HX2.out HX.out⟩
end Go.Proofs.Ythkknagicdanfaa
