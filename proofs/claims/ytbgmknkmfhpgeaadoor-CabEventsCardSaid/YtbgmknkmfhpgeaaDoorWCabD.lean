/- Walks: a report. -/
import Derived.Test.YtbgmknkmfhpgeaaDoorWCabC
set_option linter.unusedVariables false
set_option linter.unusedSimpArgs false
set_option maxRecDepth 100000
namespace Go.Proofs.YtbgmknkmfhpgeaaDoor
open Go.ChangeShapes Go.WideShapes Go.ChangeAt Go.RowKit
open Sg
theorem cpSeg_any (w : World) : Calls Tryd.prog 82 #[.slice none 0 0] w fun e w' => e = .returned (.slice none 0 0) ∧ w = w' := by
  obtain ⟨i0, hi, hz0, hz1, hz2⟩ := info_parts inf_Seg
  have HRun := Lib.hid (run_append_of_nil (P := Tryd.prog) w 0 26 26 77 i0 1 Tryd.underlying26 hi (.slice none 0 0) 0 [] (World.ownsRow_nil _ _ _ _) 0)
  go_enter Tryd.func82, Tryd.ntmps82
  go_wp2_with (at_builtin; refine Lib.wpList_append_run w rfl _ _ _ _ rfl _ _ (by simp [go_sem]) (by simp [go_sem]) _ _ HRun.out ?_)
  go_ret
  exact ⟨rfl, rfl⟩
theorem cpLnk_any (w : World) : Calls Tryd.prog 83 #[.slice none 0 0] w fun e w' => e = .returned (.slice none 0 0) ∧ w = w' := by
  obtain ⟨i0, hi, hz0, hz1, hz2⟩ := info_parts inf_Lnk
  have HRun := Lib.hid (run_append_of_nil (P := Tryd.prog) w 0 27 27 43 i0 1 Tryd.underlying27 hi (.slice none 0 0) 0 [] (World.ownsRow_nil _ _ _ _) 0)
  go_enter Tryd.func83, Tryd.ntmps83
  go_wp2_with (at_builtin; refine Lib.wpList_append_run w rfl _ _ _ _ rfl _ _ (by simp [go_sem]) (by simp [go_sem]) _ _ HRun.out ?_)
  go_ret
  exact ⟨rfl, rfl⟩
set_option maxHeartbeats 8000000 in
theorem send_any (p o i h kd fr t0 sq tm aq ae r0 r1 r2 r3 now : Int) (rw : Bool) (w : World) (ho : I64 o) : Calls Tryd.prog 52 #[.agg #[.int .i64 p, .int .i64 o, .int .i64 i, .int .i64 h], .agg #[.int .i64 kd, .int .i64 fr, .int .i64 t0, .int .i64 sq, .int .i64 tm, .int .i64 aq, .int .i64 ae, .slice none 0 0, .slice none 0 0, .int .i64 r0, .int .i64 r1, .int .i64 r2, .int .i64 r3, .bool rw], .int .i64 now] w fun e w' => e = .returned (.tuple #[.agg #[.int .i64 p, .int .i64 (if o < 1073741824 then o + 1 else o), .int .i64 i, .int .i64 h], .agg #[.int .i64 kd, .int .i64 fr, .int .i64 p, .int .i64 (if o < 1073741824 then o + 1 else o), .int .i64 now, .int .i64 aq, .int .i64 ae, .slice none 0 0, .slice none 0 0, .int .i64 r0, .int .i64 r1, .int .i64 r2, .int .i64 r3, .bool rw]]) ∧ Below w.heap.size w w' := by
  simp only [I64] at ho
  by_cases hlt : o < 1073741824
  · rw [if_pos hlt]
    have q1 : decide (o < 1073741824) = true := decide_eq_true hlt
    have wo : IntKind.i64.wrap (o + 1) = o + 1 := IntWalk.i64_in _ (by omega)
    obtain ⟨w1, hw⟩ : ∃ w1, w1 = ((((w.alloc (.cells #[.int .i64 p, .int .i64 o, .int .i64 i, .int .i64 h] 31)).alloc (.cells #[.int .i64 kd, .int .i64 fr, .int .i64 t0, .int .i64 sq, .int .i64 tm, .int .i64 aq, .int .i64 ae, .slice none 0 0, .slice none 0 0, .int .i64 r0, .int .i64 r1, .int .i64 r2, .int .i64 r3, .bool rw] 39)).alloc (.cells #[.int .i64 0, .int .i64 0, .int .i64 0, .int .i64 0] 31)).alloc (.cells #[.int .i64 0, .int .i64 0, .int .i64 0, .int .i64 0, .int .i64 0, .int .i64 0, .int .i64 0, .slice none 0 0, .slice none 0 0, .int .i64 0, .int .i64 0, .int .i64 0, .int .i64 0, .bool false] 39)) := ⟨_, rfl⟩
    have HE0 : Hid (Ext w w1) := by rw [hw]; exact eal (eal (eal (eal (Ext.refl w) _) _) _) _
    have HB : Hid (Own w1 (w.heap.size) [.int .i64 p, .int .i64 o, .int .i64 i, .int .i64 h]) := by rw [hw]; exact (((Own.new (w := w) (cs := #[.int .i64 p, .int .i64 o, .int .i64 i, .int .i64 h]) (t := 31) (by simp)).alloc _).alloc _).alloc _
    have HM : Hid (Own w1 (w.heap.size + 1) [.int .i64 kd, .int .i64 fr, .int .i64 t0, .int .i64 sq, .int .i64 tm, .int .i64 aq, .int .i64 ae, .slice none 0 0, .slice none 0 0, .int .i64 r0, .int .i64 r1, .int .i64 r2, .int .i64 r3, .bool rw]) := by rw [hw]; exact ((Own.new (w := (w.alloc (.cells #[.int .i64 p, .int .i64 o, .int .i64 i, .int .i64 h] 31))) (cs := #[.int .i64 kd, .int .i64 fr, .int .i64 t0, .int .i64 sq, .int .i64 tm, .int .i64 aq, .int .i64 ae, .slice none 0 0, .slice none 0 0, .int .i64 r0, .int .i64 r1, .int .i64 r2, .int .i64 r3, .bool rw]) (t := 39) (by simp)).alloc _).alloc _
    have HR : Hid (Own w1 (w.heap.size + 1 + 1) [.int .i64 0, .int .i64 0, .int .i64 0, .int .i64 0]) := by rw [hw]; exact (Own.new (w := ((w.alloc (.cells #[.int .i64 p, .int .i64 o, .int .i64 i, .int .i64 h] 31)).alloc (.cells #[.int .i64 kd, .int .i64 fr, .int .i64 t0, .int .i64 sq, .int .i64 tm, .int .i64 aq, .int .i64 ae, .slice none 0 0, .slice none 0 0, .int .i64 r0, .int .i64 r1, .int .i64 r2, .int .i64 r3, .bool rw] 39))) (cs := #[.int .i64 0, .int .i64 0, .int .i64 0, .int .i64 0]) (t := 31) (by simp)).alloc _
    have HT : Hid (Own w1 (w.heap.size + 1 + 1 + 1) [.int .i64 0, .int .i64 0, .int .i64 0, .int .i64 0, .int .i64 0, .int .i64 0, .int .i64 0, .slice none 0 0, .slice none 0 0, .int .i64 0, .int .i64 0, .int .i64 0, .int .i64 0, .bool false]) := by rw [hw]; exact Own.new (w := (((w.alloc (.cells #[.int .i64 p, .int .i64 o, .int .i64 i, .int .i64 h] 31)).alloc (.cells #[.int .i64 kd, .int .i64 fr, .int .i64 t0, .int .i64 sq, .int .i64 tm, .int .i64 aq, .int .i64 ae, .slice none 0 0, .slice none 0 0, .int .i64 r0, .int .i64 r1, .int .i64 r2, .int .i64 r3, .bool rw] 39)).alloc (.cells #[.int .i64 0, .int .i64 0, .int .i64 0, .int .i64 0] 31))) (cs := #[.int .i64 0, .int .i64 0, .int .i64 0, .int .i64 0, .int .i64 0, .int .i64 0, .int .i64 0, .slice none 0 0, .slice none 0 0, .int .i64 0, .int .i64 0, .int .i64 0, .int .i64 0, .bool false]) (t := 39) (by simp)
    go_enter Tryd.func52, Tryd.ntmps52
    go_upto_region 1 with (fail)
    rw [← hw]
    clear hw
    have a0 := HB.out.cells.2 0 _ rfl
    have a1 := HB.out.cells.2 1 _ rfl
    have a2 := HB.out.cells.2 2 _ rfl
    have a3 := HB.out.cells.2 3 _ rfl
    have az := HB.out.cells.1
    have af := HB.out.2.2
    have m0 := HM.out.cells.2 0 _ rfl
    have m1 := HM.out.cells.2 1 _ rfl
    have m2 := HM.out.cells.2 2 _ rfl
    have m3 := HM.out.cells.2 3 _ rfl
    have m4 := HM.out.cells.2 4 _ rfl
    have m5 := HM.out.cells.2 5 _ rfl
    have m6 := HM.out.cells.2 6 _ rfl
    have m7 := HM.out.cells.2 7 _ rfl
    have m8 := HM.out.cells.2 8 _ rfl
    have m9 := HM.out.cells.2 9 _ rfl
    have m10 := HM.out.cells.2 10 _ rfl
    have m11 := HM.out.cells.2 11 _ rfl
    have m12 := HM.out.cells.2 12 _ rfl
    have m13 := HM.out.cells.2 13 _ rfl
    have mz := HM.out.cells.1
    have mf := HM.out.2.2
    go_upto_region 3 with (fail)
    obtain ⟨w2, hw2⟩ : ∃ x, x = (w1.setCell ⟨w.heap.size, 1, none⟩ (.int .i64 (o + 1))) := ⟨_, rfl⟩
    obtain ⟨ow2, nw2⟩ := setN_at HB.out 1 [.int .i64 (o + 1)] (us := _) (ws := [.int .i64 p, .int .i64 (o + 1), .int .i64 i, .int .i64 h]) rfl (by simp) hw2
    rw [← hw2]
    clear a0 a1 a2 a3 az af
    clear m0 m1 m2 m3 m4 m5 m6 m7 m8 m9 m10 m11 m12 m13 mz mf
    have HB2 := Lib.hid ow2
    have HM2 := Lib.hid (HM.out.only nw2 (by omega))
    have HR2 := Lib.hid (HR.out.only nw2 (by omega))
    have HT2 := Lib.hid (HT.out.only nw2 (by omega))
    have HX2 := Lib.hid (eonly HE0.out nw2 (Nat.le_refl _))
    clear hw2 ow2 nw2
    have a0 := HB2.out.cells.2 0 _ rfl
    have a1 := HB2.out.cells.2 1 _ rfl
    have a2 := HB2.out.cells.2 2 _ rfl
    have a3 := HB2.out.cells.2 3 _ rfl
    have az := HB2.out.cells.1
    have af := HB2.out.2.2
    have m0 := HM2.out.cells.2 0 _ rfl
    have m1 := HM2.out.cells.2 1 _ rfl
    have m2 := HM2.out.cells.2 2 _ rfl
    have m3 := HM2.out.cells.2 3 _ rfl
    have m4 := HM2.out.cells.2 4 _ rfl
    have m5 := HM2.out.cells.2 5 _ rfl
    have m6 := HM2.out.cells.2 6 _ rfl
    have m7 := HM2.out.cells.2 7 _ rfl
    have m8 := HM2.out.cells.2 8 _ rfl
    have m9 := HM2.out.cells.2 9 _ rfl
    have m10 := HM2.out.cells.2 10 _ rfl
    have m11 := HM2.out.cells.2 11 _ rfl
    have m12 := HM2.out.cells.2 12 _ rfl
    have m13 := HM2.out.cells.2 13 _ rfl
    have mz := HM2.out.cells.1
    have mf := HM2.out.2.2
    go_region
    obtain ⟨w3, hw3⟩ : ∃ x, x = (((w2.setCell ⟨(w.heap.size + 1), 2, none⟩ (.int .i64 p)).setCell ⟨(w.heap.size + 1), 3, none⟩ (.int .i64 (o + 1))).setCell ⟨(w.heap.size + 1), 4, none⟩ (.int .i64 now)) := ⟨_, rfl⟩
    obtain ⟨ow3, nw3⟩ := setN_at HM2.out 2 [.int .i64 p, .int .i64 (o + 1), .int .i64 now] (ws := [.int .i64 kd, .int .i64 fr, .int .i64 p, .int .i64 (o + 1), .int .i64 now, .int .i64 aq, .int .i64 ae, .slice none 0 0, .slice none 0 0, .int .i64 r0, .int .i64 r1, .int .i64 r2, .int .i64 r3, .bool rw]) rfl (by simp) hw3
    rw [← hw3]
    clear hw3
    clear a0 a1 a2 a3 az af
    clear m0 m1 m2 m3 m4 m5 m6 m7 m8 m9 m10 m11 m12 m13 mz mf
    have HB3 := Lib.hid (HB2.out.only nw3 (by omega))
    have HR3 := Lib.hid (HR2.out.only nw3 (by omega))
    have HT3 := Lib.hid (HT2.out.only nw3 (by omega))
    have HX3 := Lib.hid (eonly HX2.out nw3 (by omega))
    have HM3 := Lib.hid ow3
    clear nw3 ow3
    obtain ⟨wd3, hd3⟩ : ∃ x, x = w3.drew := ⟨_, rfl⟩
    have gd3 : Ext w3 wd3 := by rw [hd3]; exact edr (Ext.refl _)
    rw [← hd3]
    clear hd3
    have HB4 := Lib.hid (HB3.out.keep gd3)
    have HM4 := Lib.hid (HM3.out.keep gd3)
    have HR4 := Lib.hid (HR3.out.keep gd3)
    have HT4 := Lib.hid (HT3.out.keep gd3)
    have HX4 := Lib.hid (etr HX3.out gd3)
    clear gd3
    have m0 := HM4.out.cells.2 0 _ rfl
    have m1 := HM4.out.cells.2 1 _ rfl
    have m2 := HM4.out.cells.2 2 _ rfl
    have m3 := HM4.out.cells.2 3 _ rfl
    have m4 := HM4.out.cells.2 4 _ rfl
    have m5 := HM4.out.cells.2 5 _ rfl
    have m6 := HM4.out.cells.2 6 _ rfl
    have m7 := HM4.out.cells.2 7 _ rfl
    have m8 := HM4.out.cells.2 8 _ rfl
    have m9 := HM4.out.cells.2 9 _ rfl
    have m10 := HM4.out.cells.2 10 _ rfl
    have m11 := HM4.out.cells.2 11 _ rfl
    have m12 := HM4.out.cells.2 12 _ rfl
    have m13 := HM4.out.cells.2 13 _ rfl
    have mz := HM4.out.cells.1
    have mf := HM4.out.2.2
    go_wp2_with fail
    refine (cpSeg_any _).mono ?_
    rintro e w' ⟨rfl, rfl⟩
    go_upto_region 5 with (fail)
    obtain ⟨w5, hw5⟩ : ∃ x, x = (wd3.setCell ⟨(w.heap.size + 1), 7, none⟩ (.slice none 0 0)) := ⟨_, rfl⟩
    obtain ⟨ow5, nw5⟩ := setN_at HM4.out 7 [.slice none 0 0] (ws := [.int .i64 kd, .int .i64 fr, .int .i64 p, .int .i64 (o + 1), .int .i64 now, .int .i64 aq, .int .i64 ae, .slice none 0 0, .slice none 0 0, .int .i64 r0, .int .i64 r1, .int .i64 r2, .int .i64 r3, .bool rw]) rfl (by simp) hw5
    rw [← hw5]
    clear hw5
    clear m0 m1 m2 m3 m4 m5 m6 m7 m8 m9 m10 m11 m12 m13 mz mf
    have HB5 := Lib.hid (HB4.out.only nw5 (by omega))
    have HR5 := Lib.hid (HR4.out.only nw5 (by omega))
    have HT5 := Lib.hid (HT4.out.only nw5 (by omega))
    have HX5 := Lib.hid (eonly HX4.out nw5 (by omega))
    have HM5 := Lib.hid ow5
    clear nw5 ow5
    have m0 := HM5.out.cells.2 0 _ rfl
    have m1 := HM5.out.cells.2 1 _ rfl
    have m2 := HM5.out.cells.2 2 _ rfl
    have m3 := HM5.out.cells.2 3 _ rfl
    have m4 := HM5.out.cells.2 4 _ rfl
    have m5 := HM5.out.cells.2 5 _ rfl
    have m6 := HM5.out.cells.2 6 _ rfl
    have m7 := HM5.out.cells.2 7 _ rfl
    have m8 := HM5.out.cells.2 8 _ rfl
    have m9 := HM5.out.cells.2 9 _ rfl
    have m10 := HM5.out.cells.2 10 _ rfl
    have m11 := HM5.out.cells.2 11 _ rfl
    have m12 := HM5.out.cells.2 12 _ rfl
    have m13 := HM5.out.cells.2 13 _ rfl
    have mz := HM5.out.cells.1
    have mf := HM5.out.2.2
    go_wp2_with fail
    refine (cpLnk_any _).mono ?_
    rintro e w' ⟨rfl, rfl⟩
    go_upto_region 6 with (fail)
    obtain ⟨w6, hw6⟩ : ∃ x, x = (w5.setCell ⟨(w.heap.size + 1), 8, none⟩ (.slice none 0 0)) := ⟨_, rfl⟩
    obtain ⟨ow6, nw6⟩ := setN_at HM5.out 8 [.slice none 0 0] (ws := [.int .i64 kd, .int .i64 fr, .int .i64 p, .int .i64 (o + 1), .int .i64 now, .int .i64 aq, .int .i64 ae, .slice none 0 0, .slice none 0 0, .int .i64 r0, .int .i64 r1, .int .i64 r2, .int .i64 r3, .bool rw]) rfl (by simp) hw6
    rw [← hw6]
    clear hw6
    clear m0 m1 m2 m3 m4 m5 m6 m7 m8 m9 m10 m11 m12 m13 mz mf
    have HB6 := Lib.hid (HB5.out.only nw6 (by omega))
    have HR6 := Lib.hid (HR5.out.only nw6 (by omega))
    have HT6 := Lib.hid (HT5.out.only nw6 (by omega))
    have HX6 := Lib.hid (eonly HX5.out nw6 (by omega))
    have HM6 := Lib.hid ow6
    clear nw6 ow6
    refine wp_region_orders 4 rfl (by kernel_rfl) (fun wd hwd => ?_)
    have HL1 := Lib.hid (HB6.out.keep hwd)
    have HL2 := Lib.hid (HM6.out.keep hwd)
    have HS1 := Lib.hid (HR6.out.keep hwd)
    have HS2 := Lib.hid (HT6.out.keep hwd)
    refine wpAny_go (rs := [0, 1]) (by kernel_rfl) (by simp) (AllO.cons rfl rfl (fun K hK => ?_) (AllO.cons rfl rfl (fun K hK => ?_) AllO.nil))
    · refine wpo_ldN 31 [.int .i64 p, .int .i64 (o + 1), .int .i64 i, .int .i64 h] rfl rfl (HL1.out).cells Tryd.underlying31 szSes rfl ?_
      refine hK _ _ ?_; clear hK K
      refine wpAny_go (rs := [1, 2]) (by kernel_rfl) (by simp) (AllO.cons rfl rfl (fun K hK => ?_) (AllO.cons rfl rfl (fun K hK => ?_) AllO.nil))
      · refine wpo_ldN 39 [.int .i64 kd, .int .i64 fr, .int .i64 p, .int .i64 (o + 1), .int .i64 now, .int .i64 aq, .int .i64 ae, .slice none 0 0, .slice none 0 0, .int .i64 r0, .int .i64 r1, .int .i64 r2, .int .i64 r3, .bool rw] rfl rfl (HL2.out).cells Tryd.underlying39 szMsg rfl ?_
        refine hK _ _ ?_; clear hK K
        refine wpAny_go (rs := [2]) (by kernel_rfl) (by simp) (AllO.cons rfl rfl (fun K hK => ?_) AllO.nil)
        refine wpo_stN 31 [.int .i64 p, .int .i64 (o + 1), .int .i64 i, .int .i64 h] [.int .i64 p, .int .i64 (o + 1), .int .i64 i, .int .i64 h] rfl rfl (HS1.out) rfl szSes rfl (by show (0 + 4 : Nat) ≤ 4; decide) rfl ?_; intro wA HA
        refine hK _ _ ?_; clear hK K
        refine wpAny_go (rs := [3]) (by kernel_rfl) (by simp) (AllO.cons rfl rfl (fun K hK => ?_) AllO.nil)
        refine wpo_stN 39 [.int .i64 kd, .int .i64 fr, .int .i64 p, .int .i64 (o + 1), .int .i64 now, .int .i64 aq, .int .i64 ae, .slice none 0 0, .slice none 0 0, .int .i64 r0, .int .i64 r1, .int .i64 r2, .int .i64 r3, .bool rw] [.int .i64 kd, .int .i64 fr, .int .i64 p, .int .i64 (o + 1), .int .i64 now, .int .i64 aq, .int .i64 ae, .slice none 0 0, .slice none 0 0, .int .i64 r0, .int .i64 r1, .int .i64 r2, .int .i64 r3, .bool rw] rfl rfl (HS2.out.only HA.out.2 (by omega)) rfl szMsg rfl (by show (0 + 14 : Nat) ≤ 14; decide) rfl ?_; intro wB HB
        refine hK _ _ ?_; clear hK K
        refine wpAny_end (by kernel_rfl) ?_
        go_wp2
        refine bodyPost_ret (res_cc (by rfl) (by rfl) (by rfl) (HA.out.1.only HB.out.2 (by omega)).cells Tryd.underlying31 szSes HB.out.1.cells Tryd.underlying39 szMsg) rfl ⟨rfl, eonly (eonly (etr HX6.out hwd) HA.out.2 (by omega)) HB.out.2 (by omega)⟩
      · refine wpo_stN 31 [.int .i64 p, .int .i64 (o + 1), .int .i64 i, .int .i64 h] [.int .i64 p, .int .i64 (o + 1), .int .i64 i, .int .i64 h] rfl rfl (HS1.out) rfl szSes rfl (by show (0 + 4 : Nat) ≤ 4; decide) rfl ?_; intro wA HA
        refine hK _ _ ?_; clear hK K
        refine wpAny_go (rs := [1]) (by kernel_rfl) (by simp) (AllO.cons rfl rfl (fun K hK => ?_) AllO.nil)
        refine wpo_ldN 39 [.int .i64 kd, .int .i64 fr, .int .i64 p, .int .i64 (o + 1), .int .i64 now, .int .i64 aq, .int .i64 ae, .slice none 0 0, .slice none 0 0, .int .i64 r0, .int .i64 r1, .int .i64 r2, .int .i64 r3, .bool rw] rfl rfl (HL2.out.only HA.out.2 (by omega)).cells Tryd.underlying39 szMsg rfl ?_
        refine hK _ _ ?_; clear hK K
        refine wpAny_go (rs := [3]) (by kernel_rfl) (by simp) (AllO.cons rfl rfl (fun K hK => ?_) AllO.nil)
        refine wpo_stN 39 [.int .i64 kd, .int .i64 fr, .int .i64 p, .int .i64 (o + 1), .int .i64 now, .int .i64 aq, .int .i64 ae, .slice none 0 0, .slice none 0 0, .int .i64 r0, .int .i64 r1, .int .i64 r2, .int .i64 r3, .bool rw] [.int .i64 kd, .int .i64 fr, .int .i64 p, .int .i64 (o + 1), .int .i64 now, .int .i64 aq, .int .i64 ae, .slice none 0 0, .slice none 0 0, .int .i64 r0, .int .i64 r1, .int .i64 r2, .int .i64 r3, .bool rw] rfl rfl (HS2.out.only HA.out.2 (by omega)) rfl szMsg rfl (by show (0 + 14 : Nat) ≤ 14; decide) rfl ?_; intro wB HB
        refine hK _ _ ?_; clear hK K
        refine wpAny_end (by kernel_rfl) ?_
        go_wp2
        refine bodyPost_ret (res_cc (by rfl) (by rfl) (by rfl) (HA.out.1.only HB.out.2 (by omega)).cells Tryd.underlying31 szSes HB.out.1.cells Tryd.underlying39 szMsg) rfl ⟨rfl, eonly (eonly (etr HX6.out hwd) HA.out.2 (by omega)) HB.out.2 (by omega)⟩
    · refine wpo_ldN 39 [.int .i64 kd, .int .i64 fr, .int .i64 p, .int .i64 (o + 1), .int .i64 now, .int .i64 aq, .int .i64 ae, .slice none 0 0, .slice none 0 0, .int .i64 r0, .int .i64 r1, .int .i64 r2, .int .i64 r3, .bool rw] rfl rfl (HL2.out).cells Tryd.underlying39 szMsg rfl ?_
      refine hK _ _ ?_; clear hK K
      refine wpAny_go (rs := [0]) (by kernel_rfl) (by simp) (AllO.cons rfl rfl (fun K hK => ?_) AllO.nil)
      refine wpo_ldN 31 [.int .i64 p, .int .i64 (o + 1), .int .i64 i, .int .i64 h] rfl rfl (HL1.out).cells Tryd.underlying31 szSes rfl ?_
      refine hK _ _ ?_; clear hK K
      refine wpAny_go (rs := [2]) (by kernel_rfl) (by simp) (AllO.cons rfl rfl (fun K hK => ?_) AllO.nil)
      refine wpo_stN 31 [.int .i64 p, .int .i64 (o + 1), .int .i64 i, .int .i64 h] [.int .i64 p, .int .i64 (o + 1), .int .i64 i, .int .i64 h] rfl rfl (HS1.out) rfl szSes rfl (by show (0 + 4 : Nat) ≤ 4; decide) rfl ?_; intro wA HA
      refine hK _ _ ?_; clear hK K
      refine wpAny_go (rs := [3]) (by kernel_rfl) (by simp) (AllO.cons rfl rfl (fun K hK => ?_) AllO.nil)
      refine wpo_stN 39 [.int .i64 kd, .int .i64 fr, .int .i64 p, .int .i64 (o + 1), .int .i64 now, .int .i64 aq, .int .i64 ae, .slice none 0 0, .slice none 0 0, .int .i64 r0, .int .i64 r1, .int .i64 r2, .int .i64 r3, .bool rw] [.int .i64 kd, .int .i64 fr, .int .i64 p, .int .i64 (o + 1), .int .i64 now, .int .i64 aq, .int .i64 ae, .slice none 0 0, .slice none 0 0, .int .i64 r0, .int .i64 r1, .int .i64 r2, .int .i64 r3, .bool rw] rfl rfl (HS2.out.only HA.out.2 (by omega)) rfl szMsg rfl (by show (0 + 14 : Nat) ≤ 14; decide) rfl ?_; intro wB HB
      refine hK _ _ ?_; clear hK K
      refine wpAny_end (by kernel_rfl) ?_
      go_wp2
      refine bodyPost_ret (res_cc (by rfl) (by rfl) (by rfl) (HA.out.1.only HB.out.2 (by omega)).cells Tryd.underlying31 szSes HB.out.1.cells Tryd.underlying39 szMsg) rfl ⟨rfl, eonly (eonly (etr HX6.out hwd) HA.out.2 (by omega)) HB.out.2 (by omega)⟩
  · rw [if_neg hlt]
    have q1 : decide (o < 1073741824) = false := decide_eq_false hlt
    obtain ⟨w1, hw⟩ : ∃ w1, w1 = ((((w.alloc (.cells #[.int .i64 p, .int .i64 o, .int .i64 i, .int .i64 h] 31)).alloc (.cells #[.int .i64 kd, .int .i64 fr, .int .i64 t0, .int .i64 sq, .int .i64 tm, .int .i64 aq, .int .i64 ae, .slice none 0 0, .slice none 0 0, .int .i64 r0, .int .i64 r1, .int .i64 r2, .int .i64 r3, .bool rw] 39)).alloc (.cells #[.int .i64 0, .int .i64 0, .int .i64 0, .int .i64 0] 31)).alloc (.cells #[.int .i64 0, .int .i64 0, .int .i64 0, .int .i64 0, .int .i64 0, .int .i64 0, .int .i64 0, .slice none 0 0, .slice none 0 0, .int .i64 0, .int .i64 0, .int .i64 0, .int .i64 0, .bool false] 39)) := ⟨_, rfl⟩
    have HE0 : Hid (Ext w w1) := by rw [hw]; exact eal (eal (eal (eal (Ext.refl w) _) _) _) _
    have HB : Hid (Own w1 (w.heap.size) [.int .i64 p, .int .i64 o, .int .i64 i, .int .i64 h]) := by rw [hw]; exact (((Own.new (w := w) (cs := #[.int .i64 p, .int .i64 o, .int .i64 i, .int .i64 h]) (t := 31) (by simp)).alloc _).alloc _).alloc _
    have HM : Hid (Own w1 (w.heap.size + 1) [.int .i64 kd, .int .i64 fr, .int .i64 t0, .int .i64 sq, .int .i64 tm, .int .i64 aq, .int .i64 ae, .slice none 0 0, .slice none 0 0, .int .i64 r0, .int .i64 r1, .int .i64 r2, .int .i64 r3, .bool rw]) := by rw [hw]; exact ((Own.new (w := (w.alloc (.cells #[.int .i64 p, .int .i64 o, .int .i64 i, .int .i64 h] 31))) (cs := #[.int .i64 kd, .int .i64 fr, .int .i64 t0, .int .i64 sq, .int .i64 tm, .int .i64 aq, .int .i64 ae, .slice none 0 0, .slice none 0 0, .int .i64 r0, .int .i64 r1, .int .i64 r2, .int .i64 r3, .bool rw]) (t := 39) (by simp)).alloc _).alloc _
    have HR : Hid (Own w1 (w.heap.size + 1 + 1) [.int .i64 0, .int .i64 0, .int .i64 0, .int .i64 0]) := by rw [hw]; exact (Own.new (w := ((w.alloc (.cells #[.int .i64 p, .int .i64 o, .int .i64 i, .int .i64 h] 31)).alloc (.cells #[.int .i64 kd, .int .i64 fr, .int .i64 t0, .int .i64 sq, .int .i64 tm, .int .i64 aq, .int .i64 ae, .slice none 0 0, .slice none 0 0, .int .i64 r0, .int .i64 r1, .int .i64 r2, .int .i64 r3, .bool rw] 39))) (cs := #[.int .i64 0, .int .i64 0, .int .i64 0, .int .i64 0]) (t := 31) (by simp)).alloc _
    have HT : Hid (Own w1 (w.heap.size + 1 + 1 + 1) [.int .i64 0, .int .i64 0, .int .i64 0, .int .i64 0, .int .i64 0, .int .i64 0, .int .i64 0, .slice none 0 0, .slice none 0 0, .int .i64 0, .int .i64 0, .int .i64 0, .int .i64 0, .bool false]) := by rw [hw]; exact Own.new (w := (((w.alloc (.cells #[.int .i64 p, .int .i64 o, .int .i64 i, .int .i64 h] 31)).alloc (.cells #[.int .i64 kd, .int .i64 fr, .int .i64 t0, .int .i64 sq, .int .i64 tm, .int .i64 aq, .int .i64 ae, .slice none 0 0, .slice none 0 0, .int .i64 r0, .int .i64 r1, .int .i64 r2, .int .i64 r3, .bool rw] 39)).alloc (.cells #[.int .i64 0, .int .i64 0, .int .i64 0, .int .i64 0] 31))) (cs := #[.int .i64 0, .int .i64 0, .int .i64 0, .int .i64 0, .int .i64 0, .int .i64 0, .int .i64 0, .slice none 0 0, .slice none 0 0, .int .i64 0, .int .i64 0, .int .i64 0, .int .i64 0, .bool false]) (t := 39) (by simp)
    go_enter Tryd.func52, Tryd.ntmps52
    go_upto_region 1 with (fail)
    rw [← hw]
    clear hw
    have a0 := HB.out.cells.2 0 _ rfl
    have a1 := HB.out.cells.2 1 _ rfl
    have a2 := HB.out.cells.2 2 _ rfl
    have a3 := HB.out.cells.2 3 _ rfl
    have az := HB.out.cells.1
    have af := HB.out.2.2
    have m0 := HM.out.cells.2 0 _ rfl
    have m1 := HM.out.cells.2 1 _ rfl
    have m2 := HM.out.cells.2 2 _ rfl
    have m3 := HM.out.cells.2 3 _ rfl
    have m4 := HM.out.cells.2 4 _ rfl
    have m5 := HM.out.cells.2 5 _ rfl
    have m6 := HM.out.cells.2 6 _ rfl
    have m7 := HM.out.cells.2 7 _ rfl
    have m8 := HM.out.cells.2 8 _ rfl
    have m9 := HM.out.cells.2 9 _ rfl
    have m10 := HM.out.cells.2 10 _ rfl
    have m11 := HM.out.cells.2 11 _ rfl
    have m12 := HM.out.cells.2 12 _ rfl
    have m13 := HM.out.cells.2 13 _ rfl
    have mz := HM.out.cells.1
    have mf := HM.out.2.2
    go_upto_region 3 with (fail)
    clear a0 a1 a2 a3 az af
    clear m0 m1 m2 m3 m4 m5 m6 m7 m8 m9 m10 m11 m12 m13 mz mf
    have HB2 := HB
    have HM2 := HM
    have HR2 := HR
    have HT2 := HT
    have HX2 := HE0
    have a0 := HB2.out.cells.2 0 _ rfl
    have a1 := HB2.out.cells.2 1 _ rfl
    have a2 := HB2.out.cells.2 2 _ rfl
    have a3 := HB2.out.cells.2 3 _ rfl
    have az := HB2.out.cells.1
    have af := HB2.out.2.2
    have m0 := HM2.out.cells.2 0 _ rfl
    have m1 := HM2.out.cells.2 1 _ rfl
    have m2 := HM2.out.cells.2 2 _ rfl
    have m3 := HM2.out.cells.2 3 _ rfl
    have m4 := HM2.out.cells.2 4 _ rfl
    have m5 := HM2.out.cells.2 5 _ rfl
    have m6 := HM2.out.cells.2 6 _ rfl
    have m7 := HM2.out.cells.2 7 _ rfl
    have m8 := HM2.out.cells.2 8 _ rfl
    have m9 := HM2.out.cells.2 9 _ rfl
    have m10 := HM2.out.cells.2 10 _ rfl
    have m11 := HM2.out.cells.2 11 _ rfl
    have m12 := HM2.out.cells.2 12 _ rfl
    have m13 := HM2.out.cells.2 13 _ rfl
    have mz := HM2.out.cells.1
    have mf := HM2.out.2.2
    go_region
    obtain ⟨w3, hw3⟩ : ∃ x, x = (((w1.setCell ⟨(w.heap.size + 1), 2, none⟩ (.int .i64 p)).setCell ⟨(w.heap.size + 1), 3, none⟩ (.int .i64 o)).setCell ⟨(w.heap.size + 1), 4, none⟩ (.int .i64 now)) := ⟨_, rfl⟩
    obtain ⟨ow3, nw3⟩ := setN_at HM2.out 2 [.int .i64 p, .int .i64 o, .int .i64 now] (ws := [.int .i64 kd, .int .i64 fr, .int .i64 p, .int .i64 o, .int .i64 now, .int .i64 aq, .int .i64 ae, .slice none 0 0, .slice none 0 0, .int .i64 r0, .int .i64 r1, .int .i64 r2, .int .i64 r3, .bool rw]) rfl (by simp) hw3
    rw [← hw3]
    clear hw3
    clear a0 a1 a2 a3 az af
    clear m0 m1 m2 m3 m4 m5 m6 m7 m8 m9 m10 m11 m12 m13 mz mf
    have HB3 := Lib.hid (HB2.out.only nw3 (by omega))
    have HR3 := Lib.hid (HR2.out.only nw3 (by omega))
    have HT3 := Lib.hid (HT2.out.only nw3 (by omega))
    have HX3 := Lib.hid (eonly HX2.out nw3 (by omega))
    have HM3 := Lib.hid ow3
    clear nw3 ow3
    obtain ⟨wd3, hd3⟩ : ∃ x, x = w3.drew := ⟨_, rfl⟩
    have gd3 : Ext w3 wd3 := by rw [hd3]; exact edr (Ext.refl _)
    rw [← hd3]
    clear hd3
    have HB4 := Lib.hid (HB3.out.keep gd3)
    have HM4 := Lib.hid (HM3.out.keep gd3)
    have HR4 := Lib.hid (HR3.out.keep gd3)
    have HT4 := Lib.hid (HT3.out.keep gd3)
    have HX4 := Lib.hid (etr HX3.out gd3)
    clear gd3
    have m0 := HM4.out.cells.2 0 _ rfl
    have m1 := HM4.out.cells.2 1 _ rfl
    have m2 := HM4.out.cells.2 2 _ rfl
    have m3 := HM4.out.cells.2 3 _ rfl
    have m4 := HM4.out.cells.2 4 _ rfl
    have m5 := HM4.out.cells.2 5 _ rfl
    have m6 := HM4.out.cells.2 6 _ rfl
    have m7 := HM4.out.cells.2 7 _ rfl
    have m8 := HM4.out.cells.2 8 _ rfl
    have m9 := HM4.out.cells.2 9 _ rfl
    have m10 := HM4.out.cells.2 10 _ rfl
    have m11 := HM4.out.cells.2 11 _ rfl
    have m12 := HM4.out.cells.2 12 _ rfl
    have m13 := HM4.out.cells.2 13 _ rfl
    have mz := HM4.out.cells.1
    have mf := HM4.out.2.2
    go_wp2_with fail
    refine (cpSeg_any _).mono ?_
    rintro e w' ⟨rfl, rfl⟩
    go_upto_region 5 with (fail)
    obtain ⟨w5, hw5⟩ : ∃ x, x = (wd3.setCell ⟨(w.heap.size + 1), 7, none⟩ (.slice none 0 0)) := ⟨_, rfl⟩
    obtain ⟨ow5, nw5⟩ := setN_at HM4.out 7 [.slice none 0 0] (ws := [.int .i64 kd, .int .i64 fr, .int .i64 p, .int .i64 o, .int .i64 now, .int .i64 aq, .int .i64 ae, .slice none 0 0, .slice none 0 0, .int .i64 r0, .int .i64 r1, .int .i64 r2, .int .i64 r3, .bool rw]) rfl (by simp) hw5
    rw [← hw5]
    clear hw5
    clear m0 m1 m2 m3 m4 m5 m6 m7 m8 m9 m10 m11 m12 m13 mz mf
    have HB5 := Lib.hid (HB4.out.only nw5 (by omega))
    have HR5 := Lib.hid (HR4.out.only nw5 (by omega))
    have HT5 := Lib.hid (HT4.out.only nw5 (by omega))
    have HX5 := Lib.hid (eonly HX4.out nw5 (by omega))
    have HM5 := Lib.hid ow5
    clear nw5 ow5
    have m0 := HM5.out.cells.2 0 _ rfl
    have m1 := HM5.out.cells.2 1 _ rfl
    have m2 := HM5.out.cells.2 2 _ rfl
    have m3 := HM5.out.cells.2 3 _ rfl
    have m4 := HM5.out.cells.2 4 _ rfl
    have m5 := HM5.out.cells.2 5 _ rfl
    have m6 := HM5.out.cells.2 6 _ rfl
    have m7 := HM5.out.cells.2 7 _ rfl
    have m8 := HM5.out.cells.2 8 _ rfl
    have m9 := HM5.out.cells.2 9 _ rfl
    have m10 := HM5.out.cells.2 10 _ rfl
    have m11 := HM5.out.cells.2 11 _ rfl
    have m12 := HM5.out.cells.2 12 _ rfl
    have m13 := HM5.out.cells.2 13 _ rfl
    have mz := HM5.out.cells.1
    have mf := HM5.out.2.2
    go_wp2_with fail
    refine (cpLnk_any _).mono ?_
    rintro e w' ⟨rfl, rfl⟩
    go_upto_region 6 with (fail)
    obtain ⟨w6, hw6⟩ : ∃ x, x = (w5.setCell ⟨(w.heap.size + 1), 8, none⟩ (.slice none 0 0)) := ⟨_, rfl⟩
    obtain ⟨ow6, nw6⟩ := setN_at HM5.out 8 [.slice none 0 0] (ws := [.int .i64 kd, .int .i64 fr, .int .i64 p, .int .i64 o, .int .i64 now, .int .i64 aq, .int .i64 ae, .slice none 0 0, .slice none 0 0, .int .i64 r0, .int .i64 r1, .int .i64 r2, .int .i64 r3, .bool rw]) rfl (by simp) hw6
    rw [← hw6]
    clear hw6
    clear m0 m1 m2 m3 m4 m5 m6 m7 m8 m9 m10 m11 m12 m13 mz mf
    have HB6 := Lib.hid (HB5.out.only nw6 (by omega))
    have HR6 := Lib.hid (HR5.out.only nw6 (by omega))
    have HT6 := Lib.hid (HT5.out.only nw6 (by omega))
    have HX6 := Lib.hid (eonly HX5.out nw6 (by omega))
    have HM6 := Lib.hid ow6
    clear nw6 ow6
    refine wp_region_orders 4 rfl (by kernel_rfl) (fun wd hwd => ?_)
    have HL1 := Lib.hid (HB6.out.keep hwd)
    have HL2 := Lib.hid (HM6.out.keep hwd)
    have HS1 := Lib.hid (HR6.out.keep hwd)
    have HS2 := Lib.hid (HT6.out.keep hwd)
    refine wpAny_go (rs := [0, 1]) (by kernel_rfl) (by simp) (AllO.cons rfl rfl (fun K hK => ?_) (AllO.cons rfl rfl (fun K hK => ?_) AllO.nil))
    · refine wpo_ldN 31 [.int .i64 p, .int .i64 o, .int .i64 i, .int .i64 h] rfl rfl (HL1.out).cells Tryd.underlying31 szSes rfl ?_
      refine hK _ _ ?_; clear hK K
      refine wpAny_go (rs := [1, 2]) (by kernel_rfl) (by simp) (AllO.cons rfl rfl (fun K hK => ?_) (AllO.cons rfl rfl (fun K hK => ?_) AllO.nil))
      · refine wpo_ldN 39 [.int .i64 kd, .int .i64 fr, .int .i64 p, .int .i64 o, .int .i64 now, .int .i64 aq, .int .i64 ae, .slice none 0 0, .slice none 0 0, .int .i64 r0, .int .i64 r1, .int .i64 r2, .int .i64 r3, .bool rw] rfl rfl (HL2.out).cells Tryd.underlying39 szMsg rfl ?_
        refine hK _ _ ?_; clear hK K
        refine wpAny_go (rs := [2]) (by kernel_rfl) (by simp) (AllO.cons rfl rfl (fun K hK => ?_) AllO.nil)
        refine wpo_stN 31 [.int .i64 p, .int .i64 o, .int .i64 i, .int .i64 h] [.int .i64 p, .int .i64 o, .int .i64 i, .int .i64 h] rfl rfl (HS1.out) rfl szSes rfl (by show (0 + 4 : Nat) ≤ 4; decide) rfl ?_; intro wA HA
        refine hK _ _ ?_; clear hK K
        refine wpAny_go (rs := [3]) (by kernel_rfl) (by simp) (AllO.cons rfl rfl (fun K hK => ?_) AllO.nil)
        refine wpo_stN 39 [.int .i64 kd, .int .i64 fr, .int .i64 p, .int .i64 o, .int .i64 now, .int .i64 aq, .int .i64 ae, .slice none 0 0, .slice none 0 0, .int .i64 r0, .int .i64 r1, .int .i64 r2, .int .i64 r3, .bool rw] [.int .i64 kd, .int .i64 fr, .int .i64 p, .int .i64 o, .int .i64 now, .int .i64 aq, .int .i64 ae, .slice none 0 0, .slice none 0 0, .int .i64 r0, .int .i64 r1, .int .i64 r2, .int .i64 r3, .bool rw] rfl rfl (HS2.out.only HA.out.2 (by omega)) rfl szMsg rfl (by show (0 + 14 : Nat) ≤ 14; decide) rfl ?_; intro wB HB
        refine hK _ _ ?_; clear hK K
        refine wpAny_end (by kernel_rfl) ?_
        go_wp2
        refine bodyPost_ret (res_cc (by rfl) (by rfl) (by rfl) (HA.out.1.only HB.out.2 (by omega)).cells Tryd.underlying31 szSes HB.out.1.cells Tryd.underlying39 szMsg) rfl ⟨rfl, eonly (eonly (etr HX6.out hwd) HA.out.2 (by omega)) HB.out.2 (by omega)⟩
      · refine wpo_stN 31 [.int .i64 p, .int .i64 o, .int .i64 i, .int .i64 h] [.int .i64 p, .int .i64 o, .int .i64 i, .int .i64 h] rfl rfl (HS1.out) rfl szSes rfl (by show (0 + 4 : Nat) ≤ 4; decide) rfl ?_; intro wA HA
        refine hK _ _ ?_; clear hK K
        refine wpAny_go (rs := [1]) (by kernel_rfl) (by simp) (AllO.cons rfl rfl (fun K hK => ?_) AllO.nil)
        refine wpo_ldN 39 [.int .i64 kd, .int .i64 fr, .int .i64 p, .int .i64 o, .int .i64 now, .int .i64 aq, .int .i64 ae, .slice none 0 0, .slice none 0 0, .int .i64 r0, .int .i64 r1, .int .i64 r2, .int .i64 r3, .bool rw] rfl rfl (HL2.out.only HA.out.2 (by omega)).cells Tryd.underlying39 szMsg rfl ?_
        refine hK _ _ ?_; clear hK K
        refine wpAny_go (rs := [3]) (by kernel_rfl) (by simp) (AllO.cons rfl rfl (fun K hK => ?_) AllO.nil)
        refine wpo_stN 39 [.int .i64 kd, .int .i64 fr, .int .i64 p, .int .i64 o, .int .i64 now, .int .i64 aq, .int .i64 ae, .slice none 0 0, .slice none 0 0, .int .i64 r0, .int .i64 r1, .int .i64 r2, .int .i64 r3, .bool rw] [.int .i64 kd, .int .i64 fr, .int .i64 p, .int .i64 o, .int .i64 now, .int .i64 aq, .int .i64 ae, .slice none 0 0, .slice none 0 0, .int .i64 r0, .int .i64 r1, .int .i64 r2, .int .i64 r3, .bool rw] rfl rfl (HS2.out.only HA.out.2 (by omega)) rfl szMsg rfl (by show (0 + 14 : Nat) ≤ 14; decide) rfl ?_; intro wB HB
        refine hK _ _ ?_; clear hK K
        refine wpAny_end (by kernel_rfl) ?_
        go_wp2
        refine bodyPost_ret (res_cc (by rfl) (by rfl) (by rfl) (HA.out.1.only HB.out.2 (by omega)).cells Tryd.underlying31 szSes HB.out.1.cells Tryd.underlying39 szMsg) rfl ⟨rfl, eonly (eonly (etr HX6.out hwd) HA.out.2 (by omega)) HB.out.2 (by omega)⟩
    · refine wpo_ldN 39 [.int .i64 kd, .int .i64 fr, .int .i64 p, .int .i64 o, .int .i64 now, .int .i64 aq, .int .i64 ae, .slice none 0 0, .slice none 0 0, .int .i64 r0, .int .i64 r1, .int .i64 r2, .int .i64 r3, .bool rw] rfl rfl (HL2.out).cells Tryd.underlying39 szMsg rfl ?_
      refine hK _ _ ?_; clear hK K
      refine wpAny_go (rs := [0]) (by kernel_rfl) (by simp) (AllO.cons rfl rfl (fun K hK => ?_) AllO.nil)
      refine wpo_ldN 31 [.int .i64 p, .int .i64 o, .int .i64 i, .int .i64 h] rfl rfl (HL1.out).cells Tryd.underlying31 szSes rfl ?_
      refine hK _ _ ?_; clear hK K
      refine wpAny_go (rs := [2]) (by kernel_rfl) (by simp) (AllO.cons rfl rfl (fun K hK => ?_) AllO.nil)
      refine wpo_stN 31 [.int .i64 p, .int .i64 o, .int .i64 i, .int .i64 h] [.int .i64 p, .int .i64 o, .int .i64 i, .int .i64 h] rfl rfl (HS1.out) rfl szSes rfl (by show (0 + 4 : Nat) ≤ 4; decide) rfl ?_; intro wA HA
      refine hK _ _ ?_; clear hK K
      refine wpAny_go (rs := [3]) (by kernel_rfl) (by simp) (AllO.cons rfl rfl (fun K hK => ?_) AllO.nil)
      refine wpo_stN 39 [.int .i64 kd, .int .i64 fr, .int .i64 p, .int .i64 o, .int .i64 now, .int .i64 aq, .int .i64 ae, .slice none 0 0, .slice none 0 0, .int .i64 r0, .int .i64 r1, .int .i64 r2, .int .i64 r3, .bool rw] [.int .i64 kd, .int .i64 fr, .int .i64 p, .int .i64 o, .int .i64 now, .int .i64 aq, .int .i64 ae, .slice none 0 0, .slice none 0 0, .int .i64 r0, .int .i64 r1, .int .i64 r2, .int .i64 r3, .bool rw] rfl rfl (HS2.out.only HA.out.2 (by omega)) rfl szMsg rfl (by show (0 + 14 : Nat) ≤ 14; decide) rfl ?_; intro wB HB
      refine hK _ _ ?_; clear hK K
      refine wpAny_end (by kernel_rfl) ?_
      go_wp2
      refine bodyPost_ret (res_cc (by rfl) (by rfl) (by rfl) (HA.out.1.only HB.out.2 (by omega)).cells Tryd.underlying31 szSes HB.out.1.cells Tryd.underlying39 szMsg) rfl ⟨rfl, eonly (eonly (etr HX6.out hwd) HA.out.2 (by omega)) HB.out.2 (by omega)⟩
set_option maxHeartbeats 8000000 in
theorem rsend_any (p o i h kd fr t0 sq tm aq ae r0 r1 r2 r3 now : Int) (rw : Bool) (w : World) (ho : I64 o) : Calls Tryd.prog 54 #[.agg #[.int .i64 p, .int .i64 o, .int .i64 i, .int .i64 h], .agg #[.int .i64 kd, .int .i64 fr, .int .i64 t0, .int .i64 sq, .int .i64 tm, .int .i64 aq, .int .i64 ae, .slice none 0 0, .slice none 0 0, .int .i64 r0, .int .i64 r1, .int .i64 r2, .int .i64 r3, .bool rw], .int .i64 now] w fun e w' => e = .returned (.tuple #[.agg #[.int .i64 p, .int .i64 (if o < 1073741824 then o + 1 else o), .int .i64 i, .int .i64 h], .agg #[.int .i64 kd, .int .i64 fr, .int .i64 p, .int .i64 (if o < 1073741824 then o + 1 else o), .int .i64 now, .int .i64 aq, .int .i64 ae, .slice none 0 0, .slice none 0 0, .int .i64 r0, .int .i64 r1, .int .i64 r2, .int .i64 r3, .bool rw]]) ∧ Below w.heap.size w w' := by
  simp only [I64] at ho
  by_cases hlt : o < 1073741824
  · rw [if_pos hlt]
    have q1 : decide (o < 1073741824) = true := decide_eq_true hlt
    have wo : IntKind.i64.wrap (o + 1) = o + 1 := IntWalk.i64_in _ (by omega)
    obtain ⟨w1, hw⟩ : ∃ w1, w1 = ((((w.alloc (.cells #[.int .i64 p, .int .i64 o, .int .i64 i, .int .i64 h] 31)).alloc (.cells #[.int .i64 kd, .int .i64 fr, .int .i64 t0, .int .i64 sq, .int .i64 tm, .int .i64 aq, .int .i64 ae, .slice none 0 0, .slice none 0 0, .int .i64 r0, .int .i64 r1, .int .i64 r2, .int .i64 r3, .bool rw] 39)).alloc (.cells #[.int .i64 0, .int .i64 0, .int .i64 0, .int .i64 0] 31)).alloc (.cells #[.int .i64 0, .int .i64 0, .int .i64 0, .int .i64 0, .int .i64 0, .int .i64 0, .int .i64 0, .slice none 0 0, .slice none 0 0, .int .i64 0, .int .i64 0, .int .i64 0, .int .i64 0, .bool false] 39)) := ⟨_, rfl⟩
    have HE0 : Hid (Ext w w1) := by rw [hw]; exact eal (eal (eal (eal (Ext.refl w) _) _) _) _
    have HB : Hid (Own w1 (w.heap.size) [.int .i64 p, .int .i64 o, .int .i64 i, .int .i64 h]) := by rw [hw]; exact (((Own.new (w := w) (cs := #[.int .i64 p, .int .i64 o, .int .i64 i, .int .i64 h]) (t := 31) (by simp)).alloc _).alloc _).alloc _
    have HM : Hid (Own w1 (w.heap.size + 1) [.int .i64 kd, .int .i64 fr, .int .i64 t0, .int .i64 sq, .int .i64 tm, .int .i64 aq, .int .i64 ae, .slice none 0 0, .slice none 0 0, .int .i64 r0, .int .i64 r1, .int .i64 r2, .int .i64 r3, .bool rw]) := by rw [hw]; exact ((Own.new (w := (w.alloc (.cells #[.int .i64 p, .int .i64 o, .int .i64 i, .int .i64 h] 31))) (cs := #[.int .i64 kd, .int .i64 fr, .int .i64 t0, .int .i64 sq, .int .i64 tm, .int .i64 aq, .int .i64 ae, .slice none 0 0, .slice none 0 0, .int .i64 r0, .int .i64 r1, .int .i64 r2, .int .i64 r3, .bool rw]) (t := 39) (by simp)).alloc _).alloc _
    have HR : Hid (Own w1 (w.heap.size + 1 + 1) [.int .i64 0, .int .i64 0, .int .i64 0, .int .i64 0]) := by rw [hw]; exact (Own.new (w := ((w.alloc (.cells #[.int .i64 p, .int .i64 o, .int .i64 i, .int .i64 h] 31)).alloc (.cells #[.int .i64 kd, .int .i64 fr, .int .i64 t0, .int .i64 sq, .int .i64 tm, .int .i64 aq, .int .i64 ae, .slice none 0 0, .slice none 0 0, .int .i64 r0, .int .i64 r1, .int .i64 r2, .int .i64 r3, .bool rw] 39))) (cs := #[.int .i64 0, .int .i64 0, .int .i64 0, .int .i64 0]) (t := 31) (by simp)).alloc _
    have HT : Hid (Own w1 (w.heap.size + 1 + 1 + 1) [.int .i64 0, .int .i64 0, .int .i64 0, .int .i64 0, .int .i64 0, .int .i64 0, .int .i64 0, .slice none 0 0, .slice none 0 0, .int .i64 0, .int .i64 0, .int .i64 0, .int .i64 0, .bool false]) := by rw [hw]; exact Own.new (w := (((w.alloc (.cells #[.int .i64 p, .int .i64 o, .int .i64 i, .int .i64 h] 31)).alloc (.cells #[.int .i64 kd, .int .i64 fr, .int .i64 t0, .int .i64 sq, .int .i64 tm, .int .i64 aq, .int .i64 ae, .slice none 0 0, .slice none 0 0, .int .i64 r0, .int .i64 r1, .int .i64 r2, .int .i64 r3, .bool rw] 39)).alloc (.cells #[.int .i64 0, .int .i64 0, .int .i64 0, .int .i64 0] 31))) (cs := #[.int .i64 0, .int .i64 0, .int .i64 0, .int .i64 0, .int .i64 0, .int .i64 0, .int .i64 0, .slice none 0 0, .slice none 0 0, .int .i64 0, .int .i64 0, .int .i64 0, .int .i64 0, .bool false]) (t := 39) (by simp)
    go_enter Tryd.func54, Tryd.ntmps54
    go_upto_region 1 with (fail)
    rw [← hw]
    clear hw
    have a0 := HB.out.cells.2 0 _ rfl
    have a1 := HB.out.cells.2 1 _ rfl
    have a2 := HB.out.cells.2 2 _ rfl
    have a3 := HB.out.cells.2 3 _ rfl
    have az := HB.out.cells.1
    have af := HB.out.2.2
    have m0 := HM.out.cells.2 0 _ rfl
    have m1 := HM.out.cells.2 1 _ rfl
    have m2 := HM.out.cells.2 2 _ rfl
    have m3 := HM.out.cells.2 3 _ rfl
    have m4 := HM.out.cells.2 4 _ rfl
    have m5 := HM.out.cells.2 5 _ rfl
    have m6 := HM.out.cells.2 6 _ rfl
    have m7 := HM.out.cells.2 7 _ rfl
    have m8 := HM.out.cells.2 8 _ rfl
    have m9 := HM.out.cells.2 9 _ rfl
    have m10 := HM.out.cells.2 10 _ rfl
    have m11 := HM.out.cells.2 11 _ rfl
    have m12 := HM.out.cells.2 12 _ rfl
    have m13 := HM.out.cells.2 13 _ rfl
    have mz := HM.out.cells.1
    have mf := HM.out.2.2
    go_upto_region 3 with (fail)
    obtain ⟨w2, hw2⟩ : ∃ x, x = (w1.setCell ⟨w.heap.size, 1, none⟩ (.int .i64 (o + 1))) := ⟨_, rfl⟩
    obtain ⟨ow2, nw2⟩ := setN_at HB.out 1 [.int .i64 (o + 1)] (us := _) (ws := [.int .i64 p, .int .i64 (o + 1), .int .i64 i, .int .i64 h]) rfl (by simp) hw2
    rw [← hw2]
    clear a0 a1 a2 a3 az af
    clear m0 m1 m2 m3 m4 m5 m6 m7 m8 m9 m10 m11 m12 m13 mz mf
    have HB2 := Lib.hid ow2
    have HM2 := Lib.hid (HM.out.only nw2 (by omega))
    have HR2 := Lib.hid (HR.out.only nw2 (by omega))
    have HT2 := Lib.hid (HT.out.only nw2 (by omega))
    have HX2 := Lib.hid (eonly HE0.out nw2 (Nat.le_refl _))
    clear hw2 ow2 nw2
    have a0 := HB2.out.cells.2 0 _ rfl
    have a1 := HB2.out.cells.2 1 _ rfl
    have a2 := HB2.out.cells.2 2 _ rfl
    have a3 := HB2.out.cells.2 3 _ rfl
    have az := HB2.out.cells.1
    have af := HB2.out.2.2
    have m0 := HM2.out.cells.2 0 _ rfl
    have m1 := HM2.out.cells.2 1 _ rfl
    have m2 := HM2.out.cells.2 2 _ rfl
    have m3 := HM2.out.cells.2 3 _ rfl
    have m4 := HM2.out.cells.2 4 _ rfl
    have m5 := HM2.out.cells.2 5 _ rfl
    have m6 := HM2.out.cells.2 6 _ rfl
    have m7 := HM2.out.cells.2 7 _ rfl
    have m8 := HM2.out.cells.2 8 _ rfl
    have m9 := HM2.out.cells.2 9 _ rfl
    have m10 := HM2.out.cells.2 10 _ rfl
    have m11 := HM2.out.cells.2 11 _ rfl
    have m12 := HM2.out.cells.2 12 _ rfl
    have m13 := HM2.out.cells.2 13 _ rfl
    have mz := HM2.out.cells.1
    have mf := HM2.out.2.2
    go_upto_region 6 with (fail)
    obtain ⟨w6, hw6⟩ : ∃ x, x = (((w2.setCell ⟨(w.heap.size + 1), 2, none⟩ (.int .i64 p)).setCell ⟨(w.heap.size + 1), 3, none⟩ (.int .i64 (o + 1))).setCell ⟨(w.heap.size + 1), 4, none⟩ (.int .i64 now)) := ⟨_, rfl⟩
    obtain ⟨ow6, nw6⟩ := setN_at HM2.out 2 [.int .i64 p, .int .i64 (o + 1), .int .i64 now] (ws := [.int .i64 kd, .int .i64 fr, .int .i64 p, .int .i64 (o + 1), .int .i64 now, .int .i64 aq, .int .i64 ae, .slice none 0 0, .slice none 0 0, .int .i64 r0, .int .i64 r1, .int .i64 r2, .int .i64 r3, .bool rw]) rfl (by simp) hw6
    rw [← hw6]
    clear hw6
    clear a0 a1 a2 a3 az af
    clear m0 m1 m2 m3 m4 m5 m6 m7 m8 m9 m10 m11 m12 m13 mz mf
    have HB6 := Lib.hid (HB2.out.only nw6 (by omega))
    have HR6 := Lib.hid (HR2.out.only nw6 (by omega))
    have HT6 := Lib.hid (HT2.out.only nw6 (by omega))
    have HX6 := Lib.hid (eonly HX2.out nw6 (by omega))
    have HM6 := Lib.hid ow6
    clear nw6 ow6
    refine wp_region_orders 4 rfl (by kernel_rfl) (fun wd hwd => ?_)
    have HL1 := Lib.hid (HB6.out.keep hwd)
    have HL2 := Lib.hid (HM6.out.keep hwd)
    have HS1 := Lib.hid (HR6.out.keep hwd)
    have HS2 := Lib.hid (HT6.out.keep hwd)
    refine wpAny_go (rs := [0, 1]) (by kernel_rfl) (by simp) (AllO.cons rfl rfl (fun K hK => ?_) (AllO.cons rfl rfl (fun K hK => ?_) AllO.nil))
    · refine wpo_ldN 31 [.int .i64 p, .int .i64 (o + 1), .int .i64 i, .int .i64 h] rfl rfl (HL1.out).cells Tryd.underlying31 szSes rfl ?_
      refine hK _ _ ?_; clear hK K
      refine wpAny_go (rs := [1, 2]) (by kernel_rfl) (by simp) (AllO.cons rfl rfl (fun K hK => ?_) (AllO.cons rfl rfl (fun K hK => ?_) AllO.nil))
      · refine wpo_ldN 39 [.int .i64 kd, .int .i64 fr, .int .i64 p, .int .i64 (o + 1), .int .i64 now, .int .i64 aq, .int .i64 ae, .slice none 0 0, .slice none 0 0, .int .i64 r0, .int .i64 r1, .int .i64 r2, .int .i64 r3, .bool rw] rfl rfl (HL2.out).cells Tryd.underlying39 szMsg rfl ?_
        refine hK _ _ ?_; clear hK K
        refine wpAny_go (rs := [2]) (by kernel_rfl) (by simp) (AllO.cons rfl rfl (fun K hK => ?_) AllO.nil)
        refine wpo_stN 31 [.int .i64 p, .int .i64 (o + 1), .int .i64 i, .int .i64 h] [.int .i64 p, .int .i64 (o + 1), .int .i64 i, .int .i64 h] rfl rfl (HS1.out) rfl szSes rfl (by show (0 + 4 : Nat) ≤ 4; decide) rfl ?_; intro wA HA
        refine hK _ _ ?_; clear hK K
        refine wpAny_go (rs := [3]) (by kernel_rfl) (by simp) (AllO.cons rfl rfl (fun K hK => ?_) AllO.nil)
        refine wpo_stN 39 [.int .i64 kd, .int .i64 fr, .int .i64 p, .int .i64 (o + 1), .int .i64 now, .int .i64 aq, .int .i64 ae, .slice none 0 0, .slice none 0 0, .int .i64 r0, .int .i64 r1, .int .i64 r2, .int .i64 r3, .bool rw] [.int .i64 kd, .int .i64 fr, .int .i64 p, .int .i64 (o + 1), .int .i64 now, .int .i64 aq, .int .i64 ae, .slice none 0 0, .slice none 0 0, .int .i64 r0, .int .i64 r1, .int .i64 r2, .int .i64 r3, .bool rw] rfl rfl (HS2.out.only HA.out.2 (by omega)) rfl szMsg rfl (by show (0 + 14 : Nat) ≤ 14; decide) rfl ?_; intro wB HB
        refine hK _ _ ?_; clear hK K
        refine wpAny_end (by kernel_rfl) ?_
        go_wp2
        refine bodyPost_ret (res_cc (by rfl) (by rfl) (by rfl) (HA.out.1.only HB.out.2 (by omega)).cells Tryd.underlying31 szSes HB.out.1.cells Tryd.underlying39 szMsg) rfl ⟨rfl, eonly (eonly (etr HX6.out hwd) HA.out.2 (by omega)) HB.out.2 (by omega)⟩
      · refine wpo_stN 31 [.int .i64 p, .int .i64 (o + 1), .int .i64 i, .int .i64 h] [.int .i64 p, .int .i64 (o + 1), .int .i64 i, .int .i64 h] rfl rfl (HS1.out) rfl szSes rfl (by show (0 + 4 : Nat) ≤ 4; decide) rfl ?_; intro wA HA
        refine hK _ _ ?_; clear hK K
        refine wpAny_go (rs := [1]) (by kernel_rfl) (by simp) (AllO.cons rfl rfl (fun K hK => ?_) AllO.nil)
        refine wpo_ldN 39 [.int .i64 kd, .int .i64 fr, .int .i64 p, .int .i64 (o + 1), .int .i64 now, .int .i64 aq, .int .i64 ae, .slice none 0 0, .slice none 0 0, .int .i64 r0, .int .i64 r1, .int .i64 r2, .int .i64 r3, .bool rw] rfl rfl (HL2.out.only HA.out.2 (by omega)).cells Tryd.underlying39 szMsg rfl ?_
        refine hK _ _ ?_; clear hK K
        refine wpAny_go (rs := [3]) (by kernel_rfl) (by simp) (AllO.cons rfl rfl (fun K hK => ?_) AllO.nil)
        refine wpo_stN 39 [.int .i64 kd, .int .i64 fr, .int .i64 p, .int .i64 (o + 1), .int .i64 now, .int .i64 aq, .int .i64 ae, .slice none 0 0, .slice none 0 0, .int .i64 r0, .int .i64 r1, .int .i64 r2, .int .i64 r3, .bool rw] [.int .i64 kd, .int .i64 fr, .int .i64 p, .int .i64 (o + 1), .int .i64 now, .int .i64 aq, .int .i64 ae, .slice none 0 0, .slice none 0 0, .int .i64 r0, .int .i64 r1, .int .i64 r2, .int .i64 r3, .bool rw] rfl rfl (HS2.out.only HA.out.2 (by omega)) rfl szMsg rfl (by show (0 + 14 : Nat) ≤ 14; decide) rfl ?_; intro wB HB
        refine hK _ _ ?_; clear hK K
        refine wpAny_end (by kernel_rfl) ?_
        go_wp2
        refine bodyPost_ret (res_cc (by rfl) (by rfl) (by rfl) (HA.out.1.only HB.out.2 (by omega)).cells Tryd.underlying31 szSes HB.out.1.cells Tryd.underlying39 szMsg) rfl ⟨rfl, eonly (eonly (etr HX6.out hwd) HA.out.2 (by omega)) HB.out.2 (by omega)⟩
    · refine wpo_ldN 39 [.int .i64 kd, .int .i64 fr, .int .i64 p, .int .i64 (o + 1), .int .i64 now, .int .i64 aq, .int .i64 ae, .slice none 0 0, .slice none 0 0, .int .i64 r0, .int .i64 r1, .int .i64 r2, .int .i64 r3, .bool rw] rfl rfl (HL2.out).cells Tryd.underlying39 szMsg rfl ?_
      refine hK _ _ ?_; clear hK K
      refine wpAny_go (rs := [0]) (by kernel_rfl) (by simp) (AllO.cons rfl rfl (fun K hK => ?_) AllO.nil)
      refine wpo_ldN 31 [.int .i64 p, .int .i64 (o + 1), .int .i64 i, .int .i64 h] rfl rfl (HL1.out).cells Tryd.underlying31 szSes rfl ?_
      refine hK _ _ ?_; clear hK K
      refine wpAny_go (rs := [2]) (by kernel_rfl) (by simp) (AllO.cons rfl rfl (fun K hK => ?_) AllO.nil)
      refine wpo_stN 31 [.int .i64 p, .int .i64 (o + 1), .int .i64 i, .int .i64 h] [.int .i64 p, .int .i64 (o + 1), .int .i64 i, .int .i64 h] rfl rfl (HS1.out) rfl szSes rfl (by show (0 + 4 : Nat) ≤ 4; decide) rfl ?_; intro wA HA
      refine hK _ _ ?_; clear hK K
      refine wpAny_go (rs := [3]) (by kernel_rfl) (by simp) (AllO.cons rfl rfl (fun K hK => ?_) AllO.nil)
      refine wpo_stN 39 [.int .i64 kd, .int .i64 fr, .int .i64 p, .int .i64 (o + 1), .int .i64 now, .int .i64 aq, .int .i64 ae, .slice none 0 0, .slice none 0 0, .int .i64 r0, .int .i64 r1, .int .i64 r2, .int .i64 r3, .bool rw] [.int .i64 kd, .int .i64 fr, .int .i64 p, .int .i64 (o + 1), .int .i64 now, .int .i64 aq, .int .i64 ae, .slice none 0 0, .slice none 0 0, .int .i64 r0, .int .i64 r1, .int .i64 r2, .int .i64 r3, .bool rw] rfl rfl (HS2.out.only HA.out.2 (by omega)) rfl szMsg rfl (by show (0 + 14 : Nat) ≤ 14; decide) rfl ?_; intro wB HB
      refine hK _ _ ?_; clear hK K
      refine wpAny_end (by kernel_rfl) ?_
      go_wp2
      refine bodyPost_ret (res_cc (by rfl) (by rfl) (by rfl) (HA.out.1.only HB.out.2 (by omega)).cells Tryd.underlying31 szSes HB.out.1.cells Tryd.underlying39 szMsg) rfl ⟨rfl, eonly (eonly (etr HX6.out hwd) HA.out.2 (by omega)) HB.out.2 (by omega)⟩
  · rw [if_neg hlt]
    have q1 : decide (o < 1073741824) = false := decide_eq_false hlt
    obtain ⟨w1, hw⟩ : ∃ w1, w1 = ((((w.alloc (.cells #[.int .i64 p, .int .i64 o, .int .i64 i, .int .i64 h] 31)).alloc (.cells #[.int .i64 kd, .int .i64 fr, .int .i64 t0, .int .i64 sq, .int .i64 tm, .int .i64 aq, .int .i64 ae, .slice none 0 0, .slice none 0 0, .int .i64 r0, .int .i64 r1, .int .i64 r2, .int .i64 r3, .bool rw] 39)).alloc (.cells #[.int .i64 0, .int .i64 0, .int .i64 0, .int .i64 0] 31)).alloc (.cells #[.int .i64 0, .int .i64 0, .int .i64 0, .int .i64 0, .int .i64 0, .int .i64 0, .int .i64 0, .slice none 0 0, .slice none 0 0, .int .i64 0, .int .i64 0, .int .i64 0, .int .i64 0, .bool false] 39)) := ⟨_, rfl⟩
    have HE0 : Hid (Ext w w1) := by rw [hw]; exact eal (eal (eal (eal (Ext.refl w) _) _) _) _
    have HB : Hid (Own w1 (w.heap.size) [.int .i64 p, .int .i64 o, .int .i64 i, .int .i64 h]) := by rw [hw]; exact (((Own.new (w := w) (cs := #[.int .i64 p, .int .i64 o, .int .i64 i, .int .i64 h]) (t := 31) (by simp)).alloc _).alloc _).alloc _
    have HM : Hid (Own w1 (w.heap.size + 1) [.int .i64 kd, .int .i64 fr, .int .i64 t0, .int .i64 sq, .int .i64 tm, .int .i64 aq, .int .i64 ae, .slice none 0 0, .slice none 0 0, .int .i64 r0, .int .i64 r1, .int .i64 r2, .int .i64 r3, .bool rw]) := by rw [hw]; exact ((Own.new (w := (w.alloc (.cells #[.int .i64 p, .int .i64 o, .int .i64 i, .int .i64 h] 31))) (cs := #[.int .i64 kd, .int .i64 fr, .int .i64 t0, .int .i64 sq, .int .i64 tm, .int .i64 aq, .int .i64 ae, .slice none 0 0, .slice none 0 0, .int .i64 r0, .int .i64 r1, .int .i64 r2, .int .i64 r3, .bool rw]) (t := 39) (by simp)).alloc _).alloc _
    have HR : Hid (Own w1 (w.heap.size + 1 + 1) [.int .i64 0, .int .i64 0, .int .i64 0, .int .i64 0]) := by rw [hw]; exact (Own.new (w := ((w.alloc (.cells #[.int .i64 p, .int .i64 o, .int .i64 i, .int .i64 h] 31)).alloc (.cells #[.int .i64 kd, .int .i64 fr, .int .i64 t0, .int .i64 sq, .int .i64 tm, .int .i64 aq, .int .i64 ae, .slice none 0 0, .slice none 0 0, .int .i64 r0, .int .i64 r1, .int .i64 r2, .int .i64 r3, .bool rw] 39))) (cs := #[.int .i64 0, .int .i64 0, .int .i64 0, .int .i64 0]) (t := 31) (by simp)).alloc _
    have HT : Hid (Own w1 (w.heap.size + 1 + 1 + 1) [.int .i64 0, .int .i64 0, .int .i64 0, .int .i64 0, .int .i64 0, .int .i64 0, .int .i64 0, .slice none 0 0, .slice none 0 0, .int .i64 0, .int .i64 0, .int .i64 0, .int .i64 0, .bool false]) := by rw [hw]; exact Own.new (w := (((w.alloc (.cells #[.int .i64 p, .int .i64 o, .int .i64 i, .int .i64 h] 31)).alloc (.cells #[.int .i64 kd, .int .i64 fr, .int .i64 t0, .int .i64 sq, .int .i64 tm, .int .i64 aq, .int .i64 ae, .slice none 0 0, .slice none 0 0, .int .i64 r0, .int .i64 r1, .int .i64 r2, .int .i64 r3, .bool rw] 39)).alloc (.cells #[.int .i64 0, .int .i64 0, .int .i64 0, .int .i64 0] 31))) (cs := #[.int .i64 0, .int .i64 0, .int .i64 0, .int .i64 0, .int .i64 0, .int .i64 0, .int .i64 0, .slice none 0 0, .slice none 0 0, .int .i64 0, .int .i64 0, .int .i64 0, .int .i64 0, .bool false]) (t := 39) (by simp)
    go_enter Tryd.func54, Tryd.ntmps54
    go_upto_region 1 with (fail)
    rw [← hw]
    clear hw
    have a0 := HB.out.cells.2 0 _ rfl
    have a1 := HB.out.cells.2 1 _ rfl
    have a2 := HB.out.cells.2 2 _ rfl
    have a3 := HB.out.cells.2 3 _ rfl
    have az := HB.out.cells.1
    have af := HB.out.2.2
    have m0 := HM.out.cells.2 0 _ rfl
    have m1 := HM.out.cells.2 1 _ rfl
    have m2 := HM.out.cells.2 2 _ rfl
    have m3 := HM.out.cells.2 3 _ rfl
    have m4 := HM.out.cells.2 4 _ rfl
    have m5 := HM.out.cells.2 5 _ rfl
    have m6 := HM.out.cells.2 6 _ rfl
    have m7 := HM.out.cells.2 7 _ rfl
    have m8 := HM.out.cells.2 8 _ rfl
    have m9 := HM.out.cells.2 9 _ rfl
    have m10 := HM.out.cells.2 10 _ rfl
    have m11 := HM.out.cells.2 11 _ rfl
    have m12 := HM.out.cells.2 12 _ rfl
    have m13 := HM.out.cells.2 13 _ rfl
    have mz := HM.out.cells.1
    have mf := HM.out.2.2
    go_upto_region 3 with (fail)
    clear a0 a1 a2 a3 az af
    clear m0 m1 m2 m3 m4 m5 m6 m7 m8 m9 m10 m11 m12 m13 mz mf
    have HB2 := HB
    have HM2 := HM
    have HR2 := HR
    have HT2 := HT
    have HX2 := HE0
    have a0 := HB2.out.cells.2 0 _ rfl
    have a1 := HB2.out.cells.2 1 _ rfl
    have a2 := HB2.out.cells.2 2 _ rfl
    have a3 := HB2.out.cells.2 3 _ rfl
    have az := HB2.out.cells.1
    have af := HB2.out.2.2
    have m0 := HM2.out.cells.2 0 _ rfl
    have m1 := HM2.out.cells.2 1 _ rfl
    have m2 := HM2.out.cells.2 2 _ rfl
    have m3 := HM2.out.cells.2 3 _ rfl
    have m4 := HM2.out.cells.2 4 _ rfl
    have m5 := HM2.out.cells.2 5 _ rfl
    have m6 := HM2.out.cells.2 6 _ rfl
    have m7 := HM2.out.cells.2 7 _ rfl
    have m8 := HM2.out.cells.2 8 _ rfl
    have m9 := HM2.out.cells.2 9 _ rfl
    have m10 := HM2.out.cells.2 10 _ rfl
    have m11 := HM2.out.cells.2 11 _ rfl
    have m12 := HM2.out.cells.2 12 _ rfl
    have m13 := HM2.out.cells.2 13 _ rfl
    have mz := HM2.out.cells.1
    have mf := HM2.out.2.2
    go_upto_region 6 with (fail)
    obtain ⟨w6, hw6⟩ : ∃ x, x = (((w1.setCell ⟨(w.heap.size + 1), 2, none⟩ (.int .i64 p)).setCell ⟨(w.heap.size + 1), 3, none⟩ (.int .i64 o)).setCell ⟨(w.heap.size + 1), 4, none⟩ (.int .i64 now)) := ⟨_, rfl⟩
    obtain ⟨ow6, nw6⟩ := setN_at HM2.out 2 [.int .i64 p, .int .i64 o, .int .i64 now] (ws := [.int .i64 kd, .int .i64 fr, .int .i64 p, .int .i64 o, .int .i64 now, .int .i64 aq, .int .i64 ae, .slice none 0 0, .slice none 0 0, .int .i64 r0, .int .i64 r1, .int .i64 r2, .int .i64 r3, .bool rw]) rfl (by simp) hw6
    rw [← hw6]
    clear hw6
    clear a0 a1 a2 a3 az af
    clear m0 m1 m2 m3 m4 m5 m6 m7 m8 m9 m10 m11 m12 m13 mz mf
    have HB6 := Lib.hid (HB2.out.only nw6 (by omega))
    have HR6 := Lib.hid (HR2.out.only nw6 (by omega))
    have HT6 := Lib.hid (HT2.out.only nw6 (by omega))
    have HX6 := Lib.hid (eonly HX2.out nw6 (by omega))
    have HM6 := Lib.hid ow6
    clear nw6 ow6
    refine wp_region_orders 4 rfl (by kernel_rfl) (fun wd hwd => ?_)
    have HL1 := Lib.hid (HB6.out.keep hwd)
    have HL2 := Lib.hid (HM6.out.keep hwd)
    have HS1 := Lib.hid (HR6.out.keep hwd)
    have HS2 := Lib.hid (HT6.out.keep hwd)
    refine wpAny_go (rs := [0, 1]) (by kernel_rfl) (by simp) (AllO.cons rfl rfl (fun K hK => ?_) (AllO.cons rfl rfl (fun K hK => ?_) AllO.nil))
    · refine wpo_ldN 31 [.int .i64 p, .int .i64 o, .int .i64 i, .int .i64 h] rfl rfl (HL1.out).cells Tryd.underlying31 szSes rfl ?_
      refine hK _ _ ?_; clear hK K
      refine wpAny_go (rs := [1, 2]) (by kernel_rfl) (by simp) (AllO.cons rfl rfl (fun K hK => ?_) (AllO.cons rfl rfl (fun K hK => ?_) AllO.nil))
      · refine wpo_ldN 39 [.int .i64 kd, .int .i64 fr, .int .i64 p, .int .i64 o, .int .i64 now, .int .i64 aq, .int .i64 ae, .slice none 0 0, .slice none 0 0, .int .i64 r0, .int .i64 r1, .int .i64 r2, .int .i64 r3, .bool rw] rfl rfl (HL2.out).cells Tryd.underlying39 szMsg rfl ?_
        refine hK _ _ ?_; clear hK K
        refine wpAny_go (rs := [2]) (by kernel_rfl) (by simp) (AllO.cons rfl rfl (fun K hK => ?_) AllO.nil)
        refine wpo_stN 31 [.int .i64 p, .int .i64 o, .int .i64 i, .int .i64 h] [.int .i64 p, .int .i64 o, .int .i64 i, .int .i64 h] rfl rfl (HS1.out) rfl szSes rfl (by show (0 + 4 : Nat) ≤ 4; decide) rfl ?_; intro wA HA
        refine hK _ _ ?_; clear hK K
        refine wpAny_go (rs := [3]) (by kernel_rfl) (by simp) (AllO.cons rfl rfl (fun K hK => ?_) AllO.nil)
        refine wpo_stN 39 [.int .i64 kd, .int .i64 fr, .int .i64 p, .int .i64 o, .int .i64 now, .int .i64 aq, .int .i64 ae, .slice none 0 0, .slice none 0 0, .int .i64 r0, .int .i64 r1, .int .i64 r2, .int .i64 r3, .bool rw] [.int .i64 kd, .int .i64 fr, .int .i64 p, .int .i64 o, .int .i64 now, .int .i64 aq, .int .i64 ae, .slice none 0 0, .slice none 0 0, .int .i64 r0, .int .i64 r1, .int .i64 r2, .int .i64 r3, .bool rw] rfl rfl (HS2.out.only HA.out.2 (by omega)) rfl szMsg rfl (by show (0 + 14 : Nat) ≤ 14; decide) rfl ?_; intro wB HB
        refine hK _ _ ?_; clear hK K
        refine wpAny_end (by kernel_rfl) ?_
        go_wp2
        refine bodyPost_ret (res_cc (by rfl) (by rfl) (by rfl) (HA.out.1.only HB.out.2 (by omega)).cells Tryd.underlying31 szSes HB.out.1.cells Tryd.underlying39 szMsg) rfl ⟨rfl, eonly (eonly (etr HX6.out hwd) HA.out.2 (by omega)) HB.out.2 (by omega)⟩
      · refine wpo_stN 31 [.int .i64 p, .int .i64 o, .int .i64 i, .int .i64 h] [.int .i64 p, .int .i64 o, .int .i64 i, .int .i64 h] rfl rfl (HS1.out) rfl szSes rfl (by show (0 + 4 : Nat) ≤ 4; decide) rfl ?_; intro wA HA
        refine hK _ _ ?_; clear hK K
        refine wpAny_go (rs := [1]) (by kernel_rfl) (by simp) (AllO.cons rfl rfl (fun K hK => ?_) AllO.nil)
        refine wpo_ldN 39 [.int .i64 kd, .int .i64 fr, .int .i64 p, .int .i64 o, .int .i64 now, .int .i64 aq, .int .i64 ae, .slice none 0 0, .slice none 0 0, .int .i64 r0, .int .i64 r1, .int .i64 r2, .int .i64 r3, .bool rw] rfl rfl (HL2.out.only HA.out.2 (by omega)).cells Tryd.underlying39 szMsg rfl ?_
        refine hK _ _ ?_; clear hK K
        refine wpAny_go (rs := [3]) (by kernel_rfl) (by simp) (AllO.cons rfl rfl (fun K hK => ?_) AllO.nil)
        refine wpo_stN 39 [.int .i64 kd, .int .i64 fr, .int .i64 p, .int .i64 o, .int .i64 now, .int .i64 aq, .int .i64 ae, .slice none 0 0, .slice none 0 0, .int .i64 r0, .int .i64 r1, .int .i64 r2, .int .i64 r3, .bool rw] [.int .i64 kd, .int .i64 fr, .int .i64 p, .int .i64 o, .int .i64 now, .int .i64 aq, .int .i64 ae, .slice none 0 0, .slice none 0 0, .int .i64 r0, .int .i64 r1, .int .i64 r2, .int .i64 r3, .bool rw] rfl rfl (HS2.out.only HA.out.2 (by omega)) rfl szMsg rfl (by show (0 + 14 : Nat) ≤ 14; decide) rfl ?_; intro wB HB
        refine hK _ _ ?_; clear hK K
        refine wpAny_end (by kernel_rfl) ?_
        go_wp2
        refine bodyPost_ret (res_cc (by rfl) (by rfl) (by rfl) (HA.out.1.only HB.out.2 (by omega)).cells Tryd.underlying31 szSes HB.out.1.cells Tryd.underlying39 szMsg) rfl ⟨rfl, eonly (eonly (etr HX6.out hwd) HA.out.2 (by omega)) HB.out.2 (by omega)⟩
    · refine wpo_ldN 39 [.int .i64 kd, .int .i64 fr, .int .i64 p, .int .i64 o, .int .i64 now, .int .i64 aq, .int .i64 ae, .slice none 0 0, .slice none 0 0, .int .i64 r0, .int .i64 r1, .int .i64 r2, .int .i64 r3, .bool rw] rfl rfl (HL2.out).cells Tryd.underlying39 szMsg rfl ?_
      refine hK _ _ ?_; clear hK K
      refine wpAny_go (rs := [0]) (by kernel_rfl) (by simp) (AllO.cons rfl rfl (fun K hK => ?_) AllO.nil)
      refine wpo_ldN 31 [.int .i64 p, .int .i64 o, .int .i64 i, .int .i64 h] rfl rfl (HL1.out).cells Tryd.underlying31 szSes rfl ?_
      refine hK _ _ ?_; clear hK K
      refine wpAny_go (rs := [2]) (by kernel_rfl) (by simp) (AllO.cons rfl rfl (fun K hK => ?_) AllO.nil)
      refine wpo_stN 31 [.int .i64 p, .int .i64 o, .int .i64 i, .int .i64 h] [.int .i64 p, .int .i64 o, .int .i64 i, .int .i64 h] rfl rfl (HS1.out) rfl szSes rfl (by show (0 + 4 : Nat) ≤ 4; decide) rfl ?_; intro wA HA
      refine hK _ _ ?_; clear hK K
      refine wpAny_go (rs := [3]) (by kernel_rfl) (by simp) (AllO.cons rfl rfl (fun K hK => ?_) AllO.nil)
      refine wpo_stN 39 [.int .i64 kd, .int .i64 fr, .int .i64 p, .int .i64 o, .int .i64 now, .int .i64 aq, .int .i64 ae, .slice none 0 0, .slice none 0 0, .int .i64 r0, .int .i64 r1, .int .i64 r2, .int .i64 r3, .bool rw] [.int .i64 kd, .int .i64 fr, .int .i64 p, .int .i64 o, .int .i64 now, .int .i64 aq, .int .i64 ae, .slice none 0 0, .slice none 0 0, .int .i64 r0, .int .i64 r1, .int .i64 r2, .int .i64 r3, .bool rw] rfl rfl (HS2.out.only HA.out.2 (by omega)) rfl szMsg rfl (by show (0 + 14 : Nat) ≤ 14; decide) rfl ?_; intro wB HB
      refine hK _ _ ?_; clear hK K
      refine wpAny_end (by kernel_rfl) ?_
      go_wp2
      refine bodyPost_ret (res_cc (by rfl) (by rfl) (by rfl) (HA.out.1.only HB.out.2 (by omega)).cells Tryd.underlying31 szSes HB.out.1.cells Tryd.underlying39 szMsg) rfl ⟨rfl, eonly (eonly (etr HX6.out hwd) HA.out.2 (by omega)) HB.out.2 (by omega)⟩
end Go.Proofs.YtbgmknkmfhpgeaaDoor
