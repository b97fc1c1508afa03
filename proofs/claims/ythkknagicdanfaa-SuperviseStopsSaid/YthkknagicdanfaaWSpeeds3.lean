/- Walks of package speeds and of its reference: Permitted. -/
import Derived.Test.YthkknagicdanfaaWSpeeds2
set_option linter.unusedVariables false
set_option linter.unusedSimpArgs false
namespace Go.Proofs.Ythkknagicdanfaa
open Go.ChangeShapes Go.WideShapes Go.ChangeAt Go.RowKit
open Sg

theorem inf_int : (Try.prog.info? 3).map (fun i => (i.zero, i.size, i.bytes)) = some (some (.int .i64 0), 1, 8) := by kernel_rfl
theorem ahdL_take {p : List Sgm} {k : Nat} {s : Sgm} (dec delay m : Int) (h : p[k]? = some s) : ahdL dec delay m (p.take (k + 1)) = ahdL dec delay m (p.take k) ++ (if m < s.from_ then [towV (s.from_ - m) s.speed dec delay] else []) := by
  unfold ahdL
  rw [filter_take h, List.map_append]
  congr 1
  by_cases c : m < s.from_
  · rw [if_pos (show pastB m s = true from decide_eq_true c), if_pos c]; rfl
  · rw [if_neg (show ¬ pastB m s = true from fun h => c (of_decide_eq_true h)), if_neg c]; rfl
theorem ahdL_len (dec delay m : Int) (p : List Sgm) : (ahdL dec delay m p).length ≤ p.length := by unfold ahdL; rw [List.length_map]; exact List.length_filter_le _ _
theorem seg_in {p : List Sgm} (hv : validB p = true) {k : Nat} {s : Sgm} (hs : p[k]? = some s) : SegOk s := by
  obtain ⟨b, hb⟩ := ch_of (validB_true.1 hv)
  obtain ⟨hl, rfl⟩ := List.getElem?_eq_some_iff.1 hs
  exact hb.ok _ (List.getElem_mem hl)
/-- The three arguments, boxed one behind the other. -/
def boxW (w : World) (T : Tr) (au : List Value) (E : Es) : World := ((w.alloc (.cells ([.int .i64 T.id, .string T.name, .int .i64 T.len, .int .i64 T.speed, .int .i64 T.accel, .int .i64 T.service, .int .i64 T.emergency, .int .i64 T.delay, .int .i64 T.cons, .int .i64 T.rate]).toArray 23)).alloc (.cells au.toArray 27)).alloc (.cells ([.int .i64 E.min, .int .i64 E.max, .int .i64 E.speed]).toArray 29)
structure Boxed (w wr : World) (T : Tr) (au : List Value) (E : Es) : Prop where
  t : CellsAt wr w.heap.size ([.int .i64 T.id, .string T.name, .int .i64 T.len, .int .i64 T.speed, .int .i64 T.accel, .int .i64 T.service, .int .i64 T.emergency, .int .i64 T.delay, .int .i64 T.cons, .int .i64 T.rate])
  a : CellsAt wr (w.heap.size + 1) au
  e : CellsAt wr (w.heap.size + 1 + 1) ([.int .i64 E.min, .int .i64 E.max, .int .i64 E.speed])
theorem Boxed.mk' (w : World) (T : Tr) (au : List Value) (E : Es) : Boxed w (boxW w T au E) T au E :=
  ⟨((CellsAt.new rfl).alloc _).alloc _, (CellsAt.new (by simp)).alloc _, CellsAt.new (by simp)⟩
theorem Boxed.keep {w wr wr' : World} {T : Tr} {au : List Value} {E : Es} (h : Boxed w wr T au E) (g : Ext wr wr') : Boxed w wr' T au E := ⟨h.t.keep g, h.a.keep g, h.e.keep g⟩
theorem boxW_ext (w : World) (T : Tr) (au : List Value) (E : Es) : Ext w (boxW w T au E) := eal (eal (eal (Ext.refl _) _) _) _
theorem decV_le (T : Tr) (p : List Sgm) (E : Es) (en : Int) : decV T p E en ≤ 9223372036854775807 := by have := (effV_bd T.service (steepV p E.min en)).2; unfold decV; omega
structure NearB (T : Tr) (E : Es) (en : Int) : Prop where
  e1 : -4294967296 ≤ E.min ∧ E.min ≤ 4294967296
  e2 : -4294967296 ≤ E.max ∧ E.max ≤ 4294967296
  e3 : -4294967296 ≤ en ∧ en ≤ 4294967296
  t : 0 ≤ T.len ∧ T.len ≤ 4294967296
theorem least_one (a x : Int) (t : TypeId) (w : World) :
    Calls Try.prog 47 #[.int .i64 a, .slice (some ⟨w.heap.size, 0, none⟩) 1 1] (w.alloc (.cells #[.int .i64 x] t)) fun e w' => e = .returned (.int .i64 (min a x)) ∧ w.alloc (.cells #[.int .i64 x] t) = w' :=
  least_any a (some ⟨w.heap.size, 0, none⟩) [x] 1 _ (by unfold maxLen; simp) (rd_cells (xs := [x]) Inc_len (CellsAt.new rfl))
set_option maxHeartbeats 8000000 in
theorem perm_any (T : Tr) (E : Es) (sq en : Int) (A LA : Option Addr) (p : List Sgm) (cap ln lc : Nat) (w : World) (hm : p.length ≤ 1000000) (hn : NearB T E en) (hr : Rd w A 4 Sgc p) :
    Calls Try.prog 28 #[.agg #[.int .i64 T.id, .string T.name, .int .i64 T.len, .int .i64 T.speed, .int .i64 T.accel, .int .i64 T.service, .int .i64 T.emergency, .int .i64 T.delay, .int .i64 T.cons, .int .i64 T.rate], .agg #[.int .i64 sq, .int .i64 en, .slice A p.length cap, .slice LA ln lc], .agg #[.int .i64 E.min, .int .i64 E.max, .int .i64 E.speed]] w fun e w' => e = .returned (.int .i64 (permV T p E en)) ∧ Below w.heap.size w w' := by
  have HR := Lib.hid hr
  have HM : Hid (p.length ≤ maxLen) := by show _ ≤ _; unfold maxLen; omega
  have HN := Lib.hid hn
  obtain ⟨i0, hi, hz0, hz1, hz2⟩ := info_parts inf_int
  obtain ⟨⟨m1, m2⟩, ⟨m3, m4⟩, ⟨m5, m6⟩, _⟩ := hn
  clear hr
  have HBX := Lib.hid (Boxed.mk' w T [.int .i64 sq, .int .i64 en, .slice A p.length cap, .slice LA ln lc] E)
  have HEX := Lib.hid (boxW_ext w T [.int .i64 sq, .int .i64 en, .slice A p.length cap, .slice LA ln lc] E)
  cases hv : validB p with
  | false =>
    have HE : Hid (permV T p E en = 0) := by show _ = _; rw [permV, hv]; rfl
    go_enter Try.func28, Try.ntmps28
    go_wp2_with (go_at_call 42; refine (to_after (valid_any A p cap _ HM.out (HR.out.keep HEX.out))).mono ?_; rintro e w' ⟨y, rfl, rfl⟩)
    go_ret
    exact ⟨ret_int HE.out.symm, eafter HEX.out y⟩
  | true =>
    have HE : Hid (permV T p E en = minL (min (ceilV T p E) (stopV T (decV T p E en) E en)) (ahdL (decV T p E en) T.delay E.max p)) := by show _ = _; rw [permV, if_pos hv]
    have HV := Lib.hid hv
    have HD : Hid (decV T p E en = effV T.service (steepV p E.min en)) := rfl
    clear hv
    go_enter Try.func28, Try.ntmps28
    go_wp2_with fail
    refine (to_after (valid_any A p cap _ HM.out (HR.out.keep HEX.out))).mono ?_
    rintro e w' ⟨y, rfl, rfl⟩
    rw [HV.out]
    go_wp2_with fail
    have HB1 := HBX.out
    have zt := HB1.t.1
    have za := HB1.a.1
    have ze := HB1.e.1
    have b0 := HB1.t.2 5 _ rfl
    have b1 := HB1.a.2 2 _ rfl
    have b2 := HB1.a.2 1 _ rfl
    have b3 := HB1.e.2 0 _ rfl
    clear HB1
    refine wp_region_in y (by kernel_rfl) (by kernel_rfl) ?_
    repeat (first | go_big_quiet_step ((first
      | (go_at_call 44; exact after_call _ (steepest_any _ p cap _ _ _ HM.out (HR.out.keep (eafter HEX.out _))))
      | (go_at_call 43; exact after_same _ (eff_any _ _ _)))))
    refine wpQuiet_nil ?_
    rintro _ ⟨y2, rfl⟩
    rw [← HD.out]
    have HX2 := Lib.hid (eafter HEX.out y2)
    have HB2 := Lib.hid (HBX.out.keep y2.is)
    obtain ⟨wl, hwl⟩ : ∃ wl, wl = y2.val := ⟨_, rfl⟩
    rw [← hwl] at HX2 HB2 ⊢
    clear hwl zt za ze b0 b1 b2 b3
    have qa := HB2.out.a.2 2 _ rfl
    have qz := HB2.out.a.1
    obtain ⟨dec, hdec⟩ : ∃ dec, dec = decV T p E en := ⟨_, rfl⟩
    rw [← hdec] at HE ⊢
    have hdl : dec ≤ 9223372036854775807 := by rw [hdec]; exact decV_le _ _ _ _
    clear hdec HD
    go_wp2
    go_loopg [8, 29] p.length (fun g u i wr => ∃ k : Nat, i = .int .i64 k ∧ k ≤ p.length ∧ g = p.length - k ∧ Hid (Ext wl wr ∧ OwnL wr wl.heap.size 3 1 Inc u (ahdL dec T.delay E.max (p.take k))))
    case atStart => exact ⟨0, rfl, by omega, rfl, Ext.refl _, OwnL.nil⟩
    case round =>
      obtain ⟨k, rfl, hk, hg, H⟩ := hrel
      have HG := Lib.hid hg
      clear hg qa qz
      have HB3 := HB2.out.keep H.out.1
      have t3 := HB3.t.1
      have t4 := HB3.a.1
      have t5 := HB3.e.1
      by_cases hlt : k < p.length
      · obtain ⟨b, off, s, rfl, hs, hbs, c0, c1, c2, c3⟩ := rd_seg HR.out (etr HX2.out H.out.1) hlt
        have HT := Lib.hid (ahdL_take dec T.delay E.max hs)
        have hlen : (ahdL dec T.delay E.max (p.take k)).length ≤ k := by have := ahdL_len dec T.delay E.max (p.take k); simp at this; omega
        obtain ⟨s1, s2, s3, s4, s5, s6, s7⟩ := seg_in HV.out hs
        have f1 := HB3.e.2 1 _ rfl
        have f2 := HB3.t.2 7 _ rfl
        clear hs HB3
        by_cases hc : E.max < s.from_
        · have HQ : Hid (ahdL dec T.delay E.max (p.take (k + 1)) = ahdL dec T.delay E.max (p.take k) ++ [towV (s.from_ - E.max) s.speed dec T.delay]) := by show _ = _; rw [HT.out, if_pos hc]
          go_wp2_with (first
            | (go_at_call 45; refine (to_after (toward_any _ _ dec T.delay hdl _)).mono ?_; rintro e w' ⟨y5, rfl, rfl⟩)
            | (at_builtin
               refine wp_appE (u := wl) Inc_len Inc_one Try.underlying32 hi hz0 hz1 hz2 rfl (by decide) rfl rfl rfl (((H.out.2.keep (eal (Ext.refl _) _)).keep y5.is).keep (eal (Ext.refl _) _)) (eal (etr (eal H.out.1 _) y5.is) _) (towV (s.from_ - E.max) s.speed dec T.delay) y5.val.heap.size (by simp [go_sem]) (by exact CellsAt.new rfl) (by omega) (by unfold maxLen; omega) ?_
               intro v1 w1 H1))
          go_roundg (p.length - (k + 1))
          case measure => have := HG.out; omega
          case rel => exact ⟨k + 1, by go_num, by omega, rfl, H1.out.2.1, by rw [HQ.out]; exact H1.out.1⟩
        · have HQ : Hid (ahdL dec T.delay E.max (p.take (k + 1)) = ahdL dec T.delay E.max (p.take k)) := by show _ = _; rw [HT.out, if_neg hc, List.append_nil]
          have hc' : decide (E.max < s.from_) = false := decide_eq_false hc
          go_wp2
          go_roundg (p.length - (k + 1))
          case measure => have := HG.out; omega
          case rel => exact ⟨k + 1, by go_num, by omega, rfl, eal H.out.1 _, by rw [HQ.out]; exact H.out.2.keep (eal (Ext.refl _) _)⟩
      · have HQ : Hid (ahdL dec T.delay E.max (p.take k) = ahdL dec T.delay E.max p) := by show _ = _; rw [List.take_of_length_le (by omega)]
        have ho := H.out.2
        rw [HQ.out] at ho
        obtain ⟨A8, cap8, rfl, hr8, hm8⟩ := ho.rd Inc_len
        have HR8 := Lib.hid hr8
        have HM8 := Lib.hid hm8
        have f1 := HB3.e.2 1 _ rfl
        have f0 := HB3.e.2 0 _ rfl
        have f3 := HB3.e.2 2 _ rfl
        have f2 := HB3.t.2 7 _ rfl
        have a1 := HB3.a.2 1 _ rfl
        have a2 := HB3.a.2 2 _ rfl
        have u0 := HB3.t.2 0 _ rfl
        have u1 := HB3.t.2 1 _ rfl
        have u2 := HB3.t.2 2 _ rfl
        have u3 := HB3.t.2 3 _ rfl
        have u4 := HB3.t.2 4 _ rfl
        have u5 := HB3.t.2 5 _ rfl
        have u6 := HB3.t.2 6 _ rfl
        have u8 := HB3.t.2 8 _ rfl
        have u9 := HB3.t.2 9 _ rfl
        obtain ⟨v1, v2⟩ := spdV_bd (en - E.max) dec T.delay
        have kk : (spdV (en - E.max) dec T.delay ≤ 0 ∧ stopV T dec E en = 0) ∨ (0 < spdV (en - E.max) dec T.delay ∧ stopV T dec E en = spdV (en - E.max) dec T.delay) := by unfold stopV; omega
        clear ho hr8 hm8 HB3
        rcases kk with ⟨k1, k2⟩ | ⟨k1, k2⟩
        all_goals
          have HK := Lib.hid k2
          clear k2
          go_wp2_with (go_at_call 46; refine (speed_any _ _ _ hdl _).mono ?_; rintro e w' ⟨rfl, rfl⟩)
        all_goals
          refine (to_after (ceil_any T E A p cap _ HM.out HN.out.e1 HN.out.t (HR.out.keep (etr HX2.out H.out.1)))).mono ?_
          rintro e w' ⟨y6, rfl, rfl⟩
          go_wp2_with (first
            | (go_at_call 47; (with_reducible refine (least_one _ _ _ _).mono ?_); rintro e w' ⟨rfl, rfl⟩)
            | (go_at_call 47; (with_reducible refine (least_any _ A8 (ahdL dec T.delay E.max p) cap8 _ HM8.out (HR8.out.keep (eal y6.is _))).mono ?_); rintro e w' ⟨rfl, rfl⟩))
          go_ret
          exact ⟨ret_int (by rw [HE.out, HK.out]), eal (etr (etr HX2.out H.out.1) y6.is) _⟩
end Go.Proofs.Ythkknagicdanfaa
