/- Walk of the reference's Of. -/
import Derived.Test.YtoodehilgogomaaDoorWOf
set_option linter.unusedVariables false
set_option linter.unusedSimpArgs false
set_option maxRecDepth 100000
namespace Go.Proofs.YtoodehilgogomaaDoor
open Go.ChangeShapes Go.WideShapes Go.ChangeAt Go.RowKit
open Sg

set_option maxHeartbeats 64000000 in
theorem rof_any (L : Lay) (A : Option Addr) (way : List Stp) (c : Nat) (o : Int) (w : World) (hL : LayOk w L) (hE : ElsOk L.els) (hr : Rd w A 3 Stc way) (hm : way.length ≤ maxLen) :
    Calls Tryd.prog 9 #[.agg #[.string L.name, .slice L.aS L.secs.length L.cS, .slice L.aE L.els.length L.cE, .slice L.aJ L.jts.length L.cJ, .slice L.aG L.sgs.length L.cG, .slice L.aB L.bals.length L.cB], .slice A way.length c, .int .i64 o] w (RetP (ofL negW L.els way o) w) := by
  obtain ⟨i0, hi, hz0, hz1, hz2⟩ := info_parts inf_Sg2
  have HII := Lib.hid hi
  have HL := Lib.hid hL
  have HE := Lib.hid hE
  have HR := Lib.hid hr
  clear hi hL hE hr
  unfold maxLen at hm
  have key : ((decide (o < -1073741824) = true) ∨ (decide (o < -1073741824) = false ∧ decide (1073741824 < o) = true) ∨ (decide (o < -1073741824) = false ∧ decide (1073741824 < o) = false ∧ decide ((128 : Int) < (way.length : Int)) = true)) ∨ (decide (o < -1073741824) = false ∧ decide (1073741824 < o) = false ∧ decide ((128 : Int) < (way.length : Int)) = false) := by
    cases decide (o < -1073741824) <;> cases decide (1073741824 < o) <;> cases decide ((128 : Int) < (way.length : Int)) <;> simp
  rcases key with key | ⟨q1, q2, q3⟩
  · have HV : Hid (ofL negW L.els way o = []) := by
      rcases key with q1 | ⟨q1, q2⟩ | ⟨q1, q2, q3⟩
      · exact ofL_out negW (fun h => by have := of_decide_eq_true q1; omega)
      · exact ofL_out negW (fun h => by have := of_decide_eq_true q2; omega)
      · exact ofL_long negW (by have := of_decide_eq_true q3; omega)
    rcases key with q1 | ⟨q1, q2⟩ | ⟨q1, q2, q3⟩
    iterate 3
      · go_enter Tryd.func9, Tryd.ntmps9
        go_wp2
        go_ret
        exact RetP.nil HV.out (eal (Ext.refl _) _)
  have ho1 := of_decide_eq_false q1
  have ho2 := of_decide_eq_false q2
  have hwl : way.length ≤ 128 := by have := of_decide_eq_false q3; omega
  have HO0 : Hid (-1073741824 ≤ o ∧ o ≤ 1073741824) := ⟨by omega, by omega⟩
  clear ho1 ho2
  go_enter Tryd.func9, Tryd.ntmps9
  go_wp2
  go_loopg [2, 7, 27] way.length (fun g x2 x7 ix wr => ∃ (k : Nat) (c1 : Int), ix = .int .i64 k ∧ x2 = .int .i64 c1 ∧ k ≤ way.length ∧ g = way.length - k ∧ Hid (Ext w wr ∧ LayAt wr w.heap.size L ∧ OwnL wr w.heap.size 41 4 Sgc x7 (ofTo negW L.els way o k) ∧ x7.ownBlock ≠ some w.heap.size ∧ c1 = begF L.els way o k ∧ StepsTo L.els way k ∧ -1073741824 ≤ c1 ∧ c1 ≤ 1073741824 + 1000000 * (k : Int)))
  case atStart => exact ⟨0, o, rfl, rfl, by omega, by omega, eal (Ext.refl _) _, CellsAt.new rfl, OwnL.nil, by simp [Value.ownBlock], rfl, fun i s hi => absurd hi (by omega), HO0.out.1, by have := HO0.out.2; omega⟩
  case round =>
    obtain ⟨k, c1, rfl, rfl, hk, hg, H⟩ := hrel
    have HG := Lib.hid hg
    clear hg
    obtain ⟨l0, a0, a1, a2, a3, a4, a5⟩ := layAt_cells H.out.2.1
    have l1 := lt_up l0
    have l2 := lt_up l1
    by_cases hlt : k < way.length
    · obtain ⟨bw, ow, s, rfl, hs, hbs, s0, s1, s2⟩ := rd_st HR.out H.out.1 hlt
      have HS := Lib.hid hs
      clear hs
      by_cases hlow : s.el < 0
      · have HV : Hid (ofL negW L.els way o = []) := ofL_step negW HS.out (fun h => by have := h.1.1; omega)
        have p2 : decide (s.el < 0) = true := decide_eq_true hlow
        clear hlow
        go_wp2
        go_ret
        exact RetP.nil HV.out (eal H.out.1 _)
      have p2 : decide (s.el < 0) = false := decide_eq_false hlow
      by_cases hhi : (L.els.length : Int) ≤ s.el
      · have HV : Hid (ofL negW L.els way o = []) := ofL_step negW HS.out (fun h => by have := h.1.2; omega)
        have p3 : decide ((L.els.length : Int) ≤ s.el) = true := decide_eq_true hhi
        clear hhi hlow
        go_wp2
        go_ret
        exact RetP.nil HV.out (eal H.out.1 _)
      obtain ⟨kE, x, hel, hx, hxe⟩ := has_at (els := L.els) (el := s.el) ⟨by omega, by omega⟩
      have hxb := HE.out kE x hx
      have hx1 := hxb.2.2.1
      have hx2 := hxb.2.2.2
      have hmE := HL.out.lE
      unfold maxLen at hmE
      obtain ⟨bE, oE, x', hAE, hx', hbE, e0, e1, e2, e3, e4, e5, e6⟩ := rd_el HL.out.hE H.out.1 (List.getElem?_eq_some_iff.1 hx).1
      rw [hx] at hx'
      cases hx'
      have hkE := (List.getElem?_eq_some_iff.1 hx).1
      obtain ⟨sel, sin, sout⟩ := s
      obtain rfl : sel = (kE : Int) := hel
      simp only [] at s0 s1 s2 HS hxe
      have HXE := Lib.hid hxe
      have p3n : decide (L.els.length ≤ kE) = false := decide_eq_false (by omega)
      have hbs1 := lt_up hbs
      have hbE1 := lt_up hbE
      have HIN : Hid (hasEl L.els (kE : Int)) := ⟨by omega, by omega⟩
      rw [hAE] at a2
      clear hlow hhi p2 hx hxe hxb hAE
      have p2 : decide ((kE : Int) < 0) = false := decide_eq_false (by omega)
      have E4 : Hid (Ext w ((wr.alloc (.cells #[.int .i64 kE, .int .i64 sin, .int .i64 sout] 47)).alloc (.cells #[.string x.name, .int .i64 x.kind, .int .i64 x.len, .int .i64 x.grade, .int .i64 x.speed, .int .i64 x.slow, .int .i64 x.sec] 49))) := eal (eal H.out.1 _) _
      have X4 : Hid (Ext wr ((wr.alloc (.cells #[.int .i64 kE, .int .i64 sin, .int .i64 sout] 47)).alloc (.cells #[.string x.name, .int .i64 x.kind, .int .i64 x.len, .int .i64 x.grade, .int .i64 x.speed, .int .i64 x.slow, .int .i64 x.sec] 49))) := eal (eal (Ext.refl _) _) _
      cases hn : needB x.kind sin sout
      · have HV : Hid (ofL negW L.els way o = []) := ofL_step negW HS.out (fun h => by have := h.2; rw [HXE.out] at this; simp only [] at this; rw [hn] at this; cases this)
        have HN := Lib.hid hn
        clear hn
        go_wp2_with (go_at_call 24; refine (to_after (rneed_any x.kind sin sout _)).mono ?_; rw [HN.out]; rintro e w' ⟨y, rfl, rfl⟩)
        go_ret
        exact RetP.nil HV.out (etr E4.out (After.is _))
      have HOKS : Hid (StepOk L.els ⟨kE, sin, sout⟩) := ⟨HIN.out, by rw [HXE.out]; exact hn⟩
      have HN := Lib.hid hn
      clear hn
      have hcl := H.out.2.2.2.2.2.2.1
      have hch := H.out.2.2.2.2.2.2.2
      have hw1 : IntKind.i64.wrap (c1 + x.len) = c1 + x.len := IntWalk.i64_in _ (by omega)
      have HB : Hid (c1 + x.len = begF L.els way o (k + 1)) := by
        show _ = _
        rw [begF_succ HS.out, ← H.out.2.2.2.2.1, HXE.out]
      have hol : (ofTo negW L.els way o k).length = k := by unfold ofTo; rw [ofF_len, List.length_take]; omega
      have HOL := Lib.hid hol
      clear hol
      have key : ((sin == 0) = true ∧ (sin == 2) = false ∧ (x.kind == 2) = false) ∨ ((sin == 0) = true ∧ (sin == 2) = false ∧ (x.kind == 2) = true ∧ (sout == 2) = true) ∨ ((sin == 0) = true ∧ (sin == 2) = false ∧ (x.kind == 2) = true ∧ (sout == 2) = false) ∨ ((sin == 0) = false ∧ (sin == 2) = true ∧ (x.kind == 3) = true ∧ (x.kind == 2) = false) ∨ ((sin == 0) = false ∧ (sin == 2) = true ∧ (x.kind == 3) = false ∧ (x.kind == 2) = true) ∨ ((sin == 0) = false ∧ (sin == 2) = true ∧ (x.kind == 3) = false ∧ (x.kind == 2) = false) ∨ ((sin == 0) = false ∧ (sin == 2) = false ∧ (x.kind == 2) = false) ∨ ((sin == 0) = false ∧ (sin == 2) = false ∧ (x.kind == 2) = true ∧ (sout == 2) = true) ∨ ((sin == 0) = false ∧ (sin == 2) = false ∧ (x.kind == 2) = true ∧ (sout == 2) = false) ∨ ((sin == 0) = true ∧ (sin == 2) = true) ∨ ((x.kind == 3) = true ∧ (x.kind == 2) = true) := by
        cases (sin == 0) <;> cases (sin == 2) <;> cases (x.kind == 3) <;> cases (x.kind == 2) <;> cases (sout == 2) <;> simp
      have hex1 : ¬ ((sin == 0) = true ∧ (sin == 2) = true) := by simp; omega
      have hex2 : ¬ ((x.kind == 3) = true ∧ (x.kind == 2) = true) := by simp; omega
      rcases key with ⟨b0, b1, b3⟩ | ⟨b0, b1, b3, b4⟩ | ⟨b0, b1, b3, b4⟩ | ⟨b0, b1, b2, b3⟩ | ⟨b0, b1, b2, b3⟩ | ⟨b0, b1, b2, b3⟩ | ⟨b0, b1, b3⟩ | ⟨b0, b1, b3, b4⟩ | ⟨b0, b1, b3, b4⟩ | hbad | hbad
      · have HSEG : Hid (segO negW L.els ⟨kE, sin, sout⟩ c1 = ⟨c1, c1 + x.len, x.grade, x.speed⟩) := by
          show _ = _
          unfold segO gradV spdV spdB fwdS negW
          simp only [HXE.out, b0, b1, b3, Bool.true_and, Bool.false_and, Bool.and_true, Bool.and_false, Bool.true_or, Bool.false_or, Bool.or_true, Bool.or_false, if_true, if_false, Bool.false_eq_true, ite_true, ite_false, reduceIte]
        clear hex1 hex2
        go_upto_region 14 with (go_at_call 24; refine (to_after (rneed_any x.kind sin sout _)).mono ?_; rw [HN.out]; rintro e w' ⟨y, rfl, rfl⟩)
        have XY : Hid (Ext wr y.val) := etr X4.out y.is
        have hy1 : wr.heap.size + 1 < y.val.heap.size := by have := y.is.size; simp at this; omega
        have hy0 : wr.heap.size < y.val.heap.size := by omega
        have hyw : w.heap.size < y.val.heap.size := by omega
        go_upto_region 18 with (fail)
        have XZ : Hid (Ext wr ((y.val.alloc (.cells #[.int .i64 c1, .int .i64 (c1 + x.len), .int .i64 (x.grade), .int .i64 (x.speed)] 41)).alloc (.cells #[.int .i64 c1, .int .i64 (c1 + x.len), .int .i64 (x.grade), .int .i64 (x.speed)] 41))) := eal (eal XY.out _) _
        have CZ : Hid (CellsAt ((y.val.alloc (.cells #[.int .i64 c1, .int .i64 (c1 + x.len), .int .i64 (x.grade), .int .i64 (x.speed)] 41)).alloc (.cells #[.int .i64 c1, .int .i64 (c1 + x.len), .int .i64 (x.grade), .int .i64 (x.speed)] 41)) (y.val.heap.size + 1) (List.flatMap Sgc [segO negW L.els ⟨kE, sin, sout⟩ c1])) := by
          rw [HSEG.out]
          exact CellsAt.new (by simp)
        go_wp2_with (at_builtin
                     refine wp_appL (u := w) Sgc_len Sgc_one Tryd.underlying34 HII.out hz0 hz1 hz2 rfl (by decide) rfl rfl rfl (H.out.2.2.1.keep XZ.out) (etr H.out.1 XZ.out) [segO negW L.els ⟨kE, sin, sout⟩ c1] (some ⟨y.val.heap.size + 1, 0, none⟩) 1 (by simp [go_sem]) (rd_cells Sgc_len CZ.out) (by rw [HOL.out]; simp; omega) (by rw [HOL.out]; unfold maxLen; simp; omega) ?_
                     intro v6 w6 H6
                     have n1 : y.val.heap.size < w6.heap.size := by have := H6.out.2.2.1.size; simp at this; omega
                     have n2 : w6.cell? ⟨y.val.heap.size, 1, none⟩ = some (.int .i64 (c1 + x.len)) := ((CellsAt.keep (CellsAt.new (w := y.val) (cs := #[.int .i64 c1, .int .i64 (c1 + x.len), .int .i64 (x.grade), .int .i64 (x.speed)]) (t := 41) rfl) (eal (Ext.refl _) _)).grown H6.out.2.2.1 (fun e => by have h1 := (H.out.2.2.1.lt _ e).2; have h2 := XY.out.size; omega)).2 1 _ rfl)
        have HOW : Hid (OwnL w6 w.heap.size 41 4 Sgc v6 (ofTo negW L.els way o (k + 1))) := by
          show OwnL _ _ _ _ _ _ _
          rw [ofTo_succ negW HS.out, ← H.out.2.2.2.2.1]
          exact H6.out.1
        go_roundg (way.length - (k + 1))
        case measure => have := HG.out; omega
        case rel => exact ⟨k + 1, c1 + x.len, by go_num, rfl, by omega, rfl, H6.out.2.1, (H.out.2.1.keep XZ.out).grown H6.out.2.2.1 H.out.2.2.2.1, HOW.out, H6.out.2.2.2 _ H.out.2.2.2.1 (Nat.lt_of_lt_of_le H.out.2.1.1 XZ.out.size), HB.out, H.out.2.2.2.2.2.1.succ HS.out HOKS.out, by omega, by push_cast; omega⟩
      · have HSEG : Hid (segO negW L.els ⟨kE, sin, sout⟩ c1 = ⟨c1, c1 + x.len, x.grade, x.slow⟩) := by
          show _ = _
          unfold segO gradV spdV spdB fwdS negW
          simp only [HXE.out, b0, b1, b3, b4, Bool.true_and, Bool.false_and, Bool.and_true, Bool.and_false, Bool.true_or, Bool.false_or, Bool.or_true, Bool.or_false, if_true, if_false, Bool.false_eq_true, ite_true, ite_false, reduceIte]
        clear hex1 hex2
        go_upto_region 14 with (go_at_call 24; refine (to_after (rneed_any x.kind sin sout _)).mono ?_; rw [HN.out]; rintro e w' ⟨y, rfl, rfl⟩)
        have XY : Hid (Ext wr y.val) := etr X4.out y.is
        have hy1 : wr.heap.size + 1 < y.val.heap.size := by have := y.is.size; simp at this; omega
        have hy0 : wr.heap.size < y.val.heap.size := by omega
        have hyw : w.heap.size < y.val.heap.size := by omega
        go_upto_region 18 with (fail)
        have XZ : Hid (Ext wr ((y.val.alloc (.cells #[.int .i64 c1, .int .i64 (c1 + x.len), .int .i64 (x.grade), .int .i64 (x.slow)] 41)).alloc (.cells #[.int .i64 c1, .int .i64 (c1 + x.len), .int .i64 (x.grade), .int .i64 (x.slow)] 41))) := eal (eal XY.out _) _
        have CZ : Hid (CellsAt ((y.val.alloc (.cells #[.int .i64 c1, .int .i64 (c1 + x.len), .int .i64 (x.grade), .int .i64 (x.slow)] 41)).alloc (.cells #[.int .i64 c1, .int .i64 (c1 + x.len), .int .i64 (x.grade), .int .i64 (x.slow)] 41)) (y.val.heap.size + 1) (List.flatMap Sgc [segO negW L.els ⟨kE, sin, sout⟩ c1])) := by
          rw [HSEG.out]
          exact CellsAt.new (by simp)
        go_wp2_with (at_builtin
                     refine wp_appL (u := w) Sgc_len Sgc_one Tryd.underlying34 HII.out hz0 hz1 hz2 rfl (by decide) rfl rfl rfl (H.out.2.2.1.keep XZ.out) (etr H.out.1 XZ.out) [segO negW L.els ⟨kE, sin, sout⟩ c1] (some ⟨y.val.heap.size + 1, 0, none⟩) 1 (by simp [go_sem]) (rd_cells Sgc_len CZ.out) (by rw [HOL.out]; simp; omega) (by rw [HOL.out]; unfold maxLen; simp; omega) ?_
                     intro v6 w6 H6
                     have n1 : y.val.heap.size < w6.heap.size := by have := H6.out.2.2.1.size; simp at this; omega
                     have n2 : w6.cell? ⟨y.val.heap.size, 1, none⟩ = some (.int .i64 (c1 + x.len)) := ((CellsAt.keep (CellsAt.new (w := y.val) (cs := #[.int .i64 c1, .int .i64 (c1 + x.len), .int .i64 (x.grade), .int .i64 (x.slow)]) (t := 41) rfl) (eal (Ext.refl _) _)).grown H6.out.2.2.1 (fun e => by have h1 := (H.out.2.2.1.lt _ e).2; have h2 := XY.out.size; omega)).2 1 _ rfl)
        have HOW : Hid (OwnL w6 w.heap.size 41 4 Sgc v6 (ofTo negW L.els way o (k + 1))) := by
          show OwnL _ _ _ _ _ _ _
          rw [ofTo_succ negW HS.out, ← H.out.2.2.2.2.1]
          exact H6.out.1
        go_roundg (way.length - (k + 1))
        case measure => have := HG.out; omega
        case rel => exact ⟨k + 1, c1 + x.len, by go_num, rfl, by omega, rfl, H6.out.2.1, (H.out.2.1.keep XZ.out).grown H6.out.2.2.1 H.out.2.2.2.1, HOW.out, H6.out.2.2.2 _ H.out.2.2.2.1 (Nat.lt_of_lt_of_le H.out.2.1.1 XZ.out.size), HB.out, H.out.2.2.2.2.2.1.succ HS.out HOKS.out, by omega, by push_cast; omega⟩
      · have HSEG : Hid (segO negW L.els ⟨kE, sin, sout⟩ c1 = ⟨c1, c1 + x.len, x.grade, x.speed⟩) := by
          show _ = _
          unfold segO gradV spdV spdB fwdS negW
          simp only [HXE.out, b0, b1, b3, b4, Bool.true_and, Bool.false_and, Bool.and_true, Bool.and_false, Bool.true_or, Bool.false_or, Bool.or_true, Bool.or_false, if_true, if_false, Bool.false_eq_true, ite_true, ite_false, reduceIte]
        clear hex1 hex2
        go_upto_region 14 with (go_at_call 24; refine (to_after (rneed_any x.kind sin sout _)).mono ?_; rw [HN.out]; rintro e w' ⟨y, rfl, rfl⟩)
        have XY : Hid (Ext wr y.val) := etr X4.out y.is
        have hy1 : wr.heap.size + 1 < y.val.heap.size := by have := y.is.size; simp at this; omega
        have hy0 : wr.heap.size < y.val.heap.size := by omega
        have hyw : w.heap.size < y.val.heap.size := by omega
        go_upto_region 18 with (fail)
        have XZ : Hid (Ext wr ((y.val.alloc (.cells #[.int .i64 c1, .int .i64 (c1 + x.len), .int .i64 (x.grade), .int .i64 (x.speed)] 41)).alloc (.cells #[.int .i64 c1, .int .i64 (c1 + x.len), .int .i64 (x.grade), .int .i64 (x.speed)] 41))) := eal (eal XY.out _) _
        have CZ : Hid (CellsAt ((y.val.alloc (.cells #[.int .i64 c1, .int .i64 (c1 + x.len), .int .i64 (x.grade), .int .i64 (x.speed)] 41)).alloc (.cells #[.int .i64 c1, .int .i64 (c1 + x.len), .int .i64 (x.grade), .int .i64 (x.speed)] 41)) (y.val.heap.size + 1) (List.flatMap Sgc [segO negW L.els ⟨kE, sin, sout⟩ c1])) := by
          rw [HSEG.out]
          exact CellsAt.new (by simp)
        go_wp2_with (at_builtin
                     refine wp_appL (u := w) Sgc_len Sgc_one Tryd.underlying34 HII.out hz0 hz1 hz2 rfl (by decide) rfl rfl rfl (H.out.2.2.1.keep XZ.out) (etr H.out.1 XZ.out) [segO negW L.els ⟨kE, sin, sout⟩ c1] (some ⟨y.val.heap.size + 1, 0, none⟩) 1 (by simp [go_sem]) (rd_cells Sgc_len CZ.out) (by rw [HOL.out]; simp; omega) (by rw [HOL.out]; unfold maxLen; simp; omega) ?_
                     intro v6 w6 H6
                     have n1 : y.val.heap.size < w6.heap.size := by have := H6.out.2.2.1.size; simp at this; omega
                     have n2 : w6.cell? ⟨y.val.heap.size, 1, none⟩ = some (.int .i64 (c1 + x.len)) := ((CellsAt.keep (CellsAt.new (w := y.val) (cs := #[.int .i64 c1, .int .i64 (c1 + x.len), .int .i64 (x.grade), .int .i64 (x.speed)]) (t := 41) rfl) (eal (Ext.refl _) _)).grown H6.out.2.2.1 (fun e => by have h1 := (H.out.2.2.1.lt _ e).2; have h2 := XY.out.size; omega)).2 1 _ rfl)
        have HOW : Hid (OwnL w6 w.heap.size 41 4 Sgc v6 (ofTo negW L.els way o (k + 1))) := by
          show OwnL _ _ _ _ _ _ _
          rw [ofTo_succ negW HS.out, ← H.out.2.2.2.2.1]
          exact H6.out.1
        go_roundg (way.length - (k + 1))
        case measure => have := HG.out; omega
        case rel => exact ⟨k + 1, c1 + x.len, by go_num, rfl, by omega, rfl, H6.out.2.1, (H.out.2.1.keep XZ.out).grown H6.out.2.2.1 H.out.2.2.2.1, HOW.out, H6.out.2.2.2 _ H.out.2.2.2.1 (Nat.lt_of_lt_of_le H.out.2.1.1 XZ.out.size), HB.out, H.out.2.2.2.2.2.1.succ HS.out HOKS.out, by omega, by push_cast; omega⟩
      · have HSEG : Hid (segO negW L.els ⟨kE, sin, sout⟩ c1 = ⟨c1, c1 + x.len, x.grade, x.speed⟩) := by
          show _ = _
          unfold segO gradV spdV spdB fwdS negW
          simp only [HXE.out, b0, b1, b2, b3, Bool.true_and, Bool.false_and, Bool.and_true, Bool.and_false, Bool.true_or, Bool.false_or, Bool.or_true, Bool.or_false, if_true, if_false, Bool.false_eq_true, ite_true, ite_false, reduceIte]
        clear hex1 hex2
        go_upto_region 14 with (go_at_call 24; refine (to_after (rneed_any x.kind sin sout _)).mono ?_; rw [HN.out]; rintro e w' ⟨y, rfl, rfl⟩)
        have XY : Hid (Ext wr y.val) := etr X4.out y.is
        have hy1 : wr.heap.size + 1 < y.val.heap.size := by have := y.is.size; simp at this; omega
        have hy0 : wr.heap.size < y.val.heap.size := by omega
        have hyw : w.heap.size < y.val.heap.size := by omega
        go_upto_region 18 with (fail)
        have XZ : Hid (Ext wr ((y.val.alloc (.cells #[.int .i64 c1, .int .i64 (c1 + x.len), .int .i64 (x.grade), .int .i64 (x.speed)] 41)).alloc (.cells #[.int .i64 c1, .int .i64 (c1 + x.len), .int .i64 (x.grade), .int .i64 (x.speed)] 41))) := eal (eal XY.out _) _
        have CZ : Hid (CellsAt ((y.val.alloc (.cells #[.int .i64 c1, .int .i64 (c1 + x.len), .int .i64 (x.grade), .int .i64 (x.speed)] 41)).alloc (.cells #[.int .i64 c1, .int .i64 (c1 + x.len), .int .i64 (x.grade), .int .i64 (x.speed)] 41)) (y.val.heap.size + 1) (List.flatMap Sgc [segO negW L.els ⟨kE, sin, sout⟩ c1])) := by
          rw [HSEG.out]
          exact CellsAt.new (by simp)
        go_wp2_with (at_builtin
                     refine wp_appL (u := w) Sgc_len Sgc_one Tryd.underlying34 HII.out hz0 hz1 hz2 rfl (by decide) rfl rfl rfl (H.out.2.2.1.keep XZ.out) (etr H.out.1 XZ.out) [segO negW L.els ⟨kE, sin, sout⟩ c1] (some ⟨y.val.heap.size + 1, 0, none⟩) 1 (by simp [go_sem]) (rd_cells Sgc_len CZ.out) (by rw [HOL.out]; simp; omega) (by rw [HOL.out]; unfold maxLen; simp; omega) ?_
                     intro v6 w6 H6
                     have n1 : y.val.heap.size < w6.heap.size := by have := H6.out.2.2.1.size; simp at this; omega
                     have n2 : w6.cell? ⟨y.val.heap.size, 1, none⟩ = some (.int .i64 (c1 + x.len)) := ((CellsAt.keep (CellsAt.new (w := y.val) (cs := #[.int .i64 c1, .int .i64 (c1 + x.len), .int .i64 (x.grade), .int .i64 (x.speed)]) (t := 41) rfl) (eal (Ext.refl _) _)).grown H6.out.2.2.1 (fun e => by have h1 := (H.out.2.2.1.lt _ e).2; have h2 := XY.out.size; omega)).2 1 _ rfl)
        have HOW : Hid (OwnL w6 w.heap.size 41 4 Sgc v6 (ofTo negW L.els way o (k + 1))) := by
          show OwnL _ _ _ _ _ _ _
          rw [ofTo_succ negW HS.out, ← H.out.2.2.2.2.1]
          exact H6.out.1
        go_roundg (way.length - (k + 1))
        case measure => have := HG.out; omega
        case rel => exact ⟨k + 1, c1 + x.len, by go_num, rfl, by omega, rfl, H6.out.2.1, (H.out.2.1.keep XZ.out).grown H6.out.2.2.1 H.out.2.2.2.1, HOW.out, H6.out.2.2.2 _ H.out.2.2.2.1 (Nat.lt_of_lt_of_le H.out.2.1.1 XZ.out.size), HB.out, H.out.2.2.2.2.2.1.succ HS.out HOKS.out, by omega, by push_cast; omega⟩
      · have HSEG : Hid (segO negW L.els ⟨kE, sin, sout⟩ c1 = ⟨c1, c1 + x.len, wrap64 (-x.grade), x.slow⟩) := by
          show _ = _
          unfold segO gradV spdV spdB fwdS negW
          simp only [HXE.out, b0, b1, b2, b3, Bool.true_and, Bool.false_and, Bool.and_true, Bool.and_false, Bool.true_or, Bool.false_or, Bool.or_true, Bool.or_false, if_true, if_false, Bool.false_eq_true, ite_true, ite_false, reduceIte]
        clear hex1 hex2
        go_upto_region 14 with (go_at_call 24; refine (to_after (rneed_any x.kind sin sout _)).mono ?_; rw [HN.out]; rintro e w' ⟨y, rfl, rfl⟩)
        have XY : Hid (Ext wr y.val) := etr X4.out y.is
        have hy1 : wr.heap.size + 1 < y.val.heap.size := by have := y.is.size; simp at this; omega
        have hy0 : wr.heap.size < y.val.heap.size := by omega
        have hyw : w.heap.size < y.val.heap.size := by omega
        go_upto_region 18 with (fail)
        have XZ : Hid (Ext wr ((y.val.alloc (.cells #[.int .i64 c1, .int .i64 (c1 + x.len), .int .i64 (wrap64 (-x.grade)), .int .i64 (x.slow)] 41)).alloc (.cells #[.int .i64 c1, .int .i64 (c1 + x.len), .int .i64 (wrap64 (-x.grade)), .int .i64 (x.slow)] 41))) := eal (eal XY.out _) _
        have CZ : Hid (CellsAt ((y.val.alloc (.cells #[.int .i64 c1, .int .i64 (c1 + x.len), .int .i64 (wrap64 (-x.grade)), .int .i64 (x.slow)] 41)).alloc (.cells #[.int .i64 c1, .int .i64 (c1 + x.len), .int .i64 (wrap64 (-x.grade)), .int .i64 (x.slow)] 41)) (y.val.heap.size + 1) (List.flatMap Sgc [segO negW L.els ⟨kE, sin, sout⟩ c1])) := by
          rw [HSEG.out]
          exact CellsAt.new (by simp)
        go_wp2_with (at_builtin
                     refine wp_appL (u := w) Sgc_len Sgc_one Tryd.underlying34 HII.out hz0 hz1 hz2 rfl (by decide) rfl rfl rfl (H.out.2.2.1.keep XZ.out) (etr H.out.1 XZ.out) [segO negW L.els ⟨kE, sin, sout⟩ c1] (some ⟨y.val.heap.size + 1, 0, none⟩) 1 (by simp [go_sem]) (rd_cells Sgc_len CZ.out) (by rw [HOL.out]; simp; omega) (by rw [HOL.out]; unfold maxLen; simp; omega) ?_
                     intro v6 w6 H6
                     have n1 : y.val.heap.size < w6.heap.size := by have := H6.out.2.2.1.size; simp at this; omega
                     have n2 : w6.cell? ⟨y.val.heap.size, 1, none⟩ = some (.int .i64 (c1 + x.len)) := ((CellsAt.keep (CellsAt.new (w := y.val) (cs := #[.int .i64 c1, .int .i64 (c1 + x.len), .int .i64 (wrap64 (-x.grade)), .int .i64 (x.slow)]) (t := 41) rfl) (eal (Ext.refl _) _)).grown H6.out.2.2.1 (fun e => by have h1 := (H.out.2.2.1.lt _ e).2; have h2 := XY.out.size; omega)).2 1 _ rfl)
        have HOW : Hid (OwnL w6 w.heap.size 41 4 Sgc v6 (ofTo negW L.els way o (k + 1))) := by
          show OwnL _ _ _ _ _ _ _
          rw [ofTo_succ negW HS.out, ← H.out.2.2.2.2.1]
          exact H6.out.1
        go_roundg (way.length - (k + 1))
        case measure => have := HG.out; omega
        case rel => exact ⟨k + 1, c1 + x.len, by go_num, rfl, by omega, rfl, H6.out.2.1, (H.out.2.1.keep XZ.out).grown H6.out.2.2.1 H.out.2.2.2.1, HOW.out, H6.out.2.2.2 _ H.out.2.2.2.1 (Nat.lt_of_lt_of_le H.out.2.1.1 XZ.out.size), HB.out, H.out.2.2.2.2.2.1.succ HS.out HOKS.out, by omega, by push_cast; omega⟩
      · have HSEG : Hid (segO negW L.els ⟨kE, sin, sout⟩ c1 = ⟨c1, c1 + x.len, wrap64 (-x.grade), x.speed⟩) := by
          show _ = _
          unfold segO gradV spdV spdB fwdS negW
          simp only [HXE.out, b0, b1, b2, b3, Bool.true_and, Bool.false_and, Bool.and_true, Bool.and_false, Bool.true_or, Bool.false_or, Bool.or_true, Bool.or_false, if_true, if_false, Bool.false_eq_true, ite_true, ite_false, reduceIte]
        clear hex1 hex2
        go_upto_region 14 with (go_at_call 24; refine (to_after (rneed_any x.kind sin sout _)).mono ?_; rw [HN.out]; rintro e w' ⟨y, rfl, rfl⟩)
        have XY : Hid (Ext wr y.val) := etr X4.out y.is
        have hy1 : wr.heap.size + 1 < y.val.heap.size := by have := y.is.size; simp at this; omega
        have hy0 : wr.heap.size < y.val.heap.size := by omega
        have hyw : w.heap.size < y.val.heap.size := by omega
        go_upto_region 18 with (fail)
        have XZ : Hid (Ext wr ((y.val.alloc (.cells #[.int .i64 c1, .int .i64 (c1 + x.len), .int .i64 (wrap64 (-x.grade)), .int .i64 (x.speed)] 41)).alloc (.cells #[.int .i64 c1, .int .i64 (c1 + x.len), .int .i64 (wrap64 (-x.grade)), .int .i64 (x.speed)] 41))) := eal (eal XY.out _) _
        have CZ : Hid (CellsAt ((y.val.alloc (.cells #[.int .i64 c1, .int .i64 (c1 + x.len), .int .i64 (wrap64 (-x.grade)), .int .i64 (x.speed)] 41)).alloc (.cells #[.int .i64 c1, .int .i64 (c1 + x.len), .int .i64 (wrap64 (-x.grade)), .int .i64 (x.speed)] 41)) (y.val.heap.size + 1) (List.flatMap Sgc [segO negW L.els ⟨kE, sin, sout⟩ c1])) := by
          rw [HSEG.out]
          exact CellsAt.new (by simp)
        go_wp2_with (at_builtin
                     refine wp_appL (u := w) Sgc_len Sgc_one Tryd.underlying34 HII.out hz0 hz1 hz2 rfl (by decide) rfl rfl rfl (H.out.2.2.1.keep XZ.out) (etr H.out.1 XZ.out) [segO negW L.els ⟨kE, sin, sout⟩ c1] (some ⟨y.val.heap.size + 1, 0, none⟩) 1 (by simp [go_sem]) (rd_cells Sgc_len CZ.out) (by rw [HOL.out]; simp; omega) (by rw [HOL.out]; unfold maxLen; simp; omega) ?_
                     intro v6 w6 H6
                     have n1 : y.val.heap.size < w6.heap.size := by have := H6.out.2.2.1.size; simp at this; omega
                     have n2 : w6.cell? ⟨y.val.heap.size, 1, none⟩ = some (.int .i64 (c1 + x.len)) := ((CellsAt.keep (CellsAt.new (w := y.val) (cs := #[.int .i64 c1, .int .i64 (c1 + x.len), .int .i64 (wrap64 (-x.grade)), .int .i64 (x.speed)]) (t := 41) rfl) (eal (Ext.refl _) _)).grown H6.out.2.2.1 (fun e => by have h1 := (H.out.2.2.1.lt _ e).2; have h2 := XY.out.size; omega)).2 1 _ rfl)
        have HOW : Hid (OwnL w6 w.heap.size 41 4 Sgc v6 (ofTo negW L.els way o (k + 1))) := by
          show OwnL _ _ _ _ _ _ _
          rw [ofTo_succ negW HS.out, ← H.out.2.2.2.2.1]
          exact H6.out.1
        go_roundg (way.length - (k + 1))
        case measure => have := HG.out; omega
        case rel => exact ⟨k + 1, c1 + x.len, by go_num, rfl, by omega, rfl, H6.out.2.1, (H.out.2.1.keep XZ.out).grown H6.out.2.2.1 H.out.2.2.2.1, HOW.out, H6.out.2.2.2 _ H.out.2.2.2.1 (Nat.lt_of_lt_of_le H.out.2.1.1 XZ.out.size), HB.out, H.out.2.2.2.2.2.1.succ HS.out HOKS.out, by omega, by push_cast; omega⟩
      · have HSEG : Hid (segO negW L.els ⟨kE, sin, sout⟩ c1 = ⟨c1, c1 + x.len, wrap64 (-x.grade), x.speed⟩) := by
          show _ = _
          unfold segO gradV spdV spdB fwdS negW
          simp only [HXE.out, b0, b1, b3, Bool.true_and, Bool.false_and, Bool.and_true, Bool.and_false, Bool.true_or, Bool.false_or, Bool.or_true, Bool.or_false, if_true, if_false, Bool.false_eq_true, ite_true, ite_false, reduceIte]
        clear hex1 hex2
        go_upto_region 14 with (go_at_call 24; refine (to_after (rneed_any x.kind sin sout _)).mono ?_; rw [HN.out]; rintro e w' ⟨y, rfl, rfl⟩)
        have XY : Hid (Ext wr y.val) := etr X4.out y.is
        have hy1 : wr.heap.size + 1 < y.val.heap.size := by have := y.is.size; simp at this; omega
        have hy0 : wr.heap.size < y.val.heap.size := by omega
        have hyw : w.heap.size < y.val.heap.size := by omega
        go_upto_region 18 with (fail)
        have XZ : Hid (Ext wr ((y.val.alloc (.cells #[.int .i64 c1, .int .i64 (c1 + x.len), .int .i64 (wrap64 (-x.grade)), .int .i64 (x.speed)] 41)).alloc (.cells #[.int .i64 c1, .int .i64 (c1 + x.len), .int .i64 (wrap64 (-x.grade)), .int .i64 (x.speed)] 41))) := eal (eal XY.out _) _
        have CZ : Hid (CellsAt ((y.val.alloc (.cells #[.int .i64 c1, .int .i64 (c1 + x.len), .int .i64 (wrap64 (-x.grade)), .int .i64 (x.speed)] 41)).alloc (.cells #[.int .i64 c1, .int .i64 (c1 + x.len), .int .i64 (wrap64 (-x.grade)), .int .i64 (x.speed)] 41)) (y.val.heap.size + 1) (List.flatMap Sgc [segO negW L.els ⟨kE, sin, sout⟩ c1])) := by
          rw [HSEG.out]
          exact CellsAt.new (by simp)
        go_wp2_with (at_builtin
                     refine wp_appL (u := w) Sgc_len Sgc_one Tryd.underlying34 HII.out hz0 hz1 hz2 rfl (by decide) rfl rfl rfl (H.out.2.2.1.keep XZ.out) (etr H.out.1 XZ.out) [segO negW L.els ⟨kE, sin, sout⟩ c1] (some ⟨y.val.heap.size + 1, 0, none⟩) 1 (by simp [go_sem]) (rd_cells Sgc_len CZ.out) (by rw [HOL.out]; simp; omega) (by rw [HOL.out]; unfold maxLen; simp; omega) ?_
                     intro v6 w6 H6
                     have n1 : y.val.heap.size < w6.heap.size := by have := H6.out.2.2.1.size; simp at this; omega
                     have n2 : w6.cell? ⟨y.val.heap.size, 1, none⟩ = some (.int .i64 (c1 + x.len)) := ((CellsAt.keep (CellsAt.new (w := y.val) (cs := #[.int .i64 c1, .int .i64 (c1 + x.len), .int .i64 (wrap64 (-x.grade)), .int .i64 (x.speed)]) (t := 41) rfl) (eal (Ext.refl _) _)).grown H6.out.2.2.1 (fun e => by have h1 := (H.out.2.2.1.lt _ e).2; have h2 := XY.out.size; omega)).2 1 _ rfl)
        have HOW : Hid (OwnL w6 w.heap.size 41 4 Sgc v6 (ofTo negW L.els way o (k + 1))) := by
          show OwnL _ _ _ _ _ _ _
          rw [ofTo_succ negW HS.out, ← H.out.2.2.2.2.1]
          exact H6.out.1
        go_roundg (way.length - (k + 1))
        case measure => have := HG.out; omega
        case rel => exact ⟨k + 1, c1 + x.len, by go_num, rfl, by omega, rfl, H6.out.2.1, (H.out.2.1.keep XZ.out).grown H6.out.2.2.1 H.out.2.2.2.1, HOW.out, H6.out.2.2.2 _ H.out.2.2.2.1 (Nat.lt_of_lt_of_le H.out.2.1.1 XZ.out.size), HB.out, H.out.2.2.2.2.2.1.succ HS.out HOKS.out, by omega, by push_cast; omega⟩
      · have HSEG : Hid (segO negW L.els ⟨kE, sin, sout⟩ c1 = ⟨c1, c1 + x.len, wrap64 (-x.grade), x.slow⟩) := by
          show _ = _
          unfold segO gradV spdV spdB fwdS negW
          simp only [HXE.out, b0, b1, b3, b4, Bool.true_and, Bool.false_and, Bool.and_true, Bool.and_false, Bool.true_or, Bool.false_or, Bool.or_true, Bool.or_false, if_true, if_false, Bool.false_eq_true, ite_true, ite_false, reduceIte]
        clear hex1 hex2
        go_upto_region 14 with (go_at_call 24; refine (to_after (rneed_any x.kind sin sout _)).mono ?_; rw [HN.out]; rintro e w' ⟨y, rfl, rfl⟩)
        have XY : Hid (Ext wr y.val) := etr X4.out y.is
        have hy1 : wr.heap.size + 1 < y.val.heap.size := by have := y.is.size; simp at this; omega
        have hy0 : wr.heap.size < y.val.heap.size := by omega
        have hyw : w.heap.size < y.val.heap.size := by omega
        go_upto_region 18 with (fail)
        have XZ : Hid (Ext wr ((y.val.alloc (.cells #[.int .i64 c1, .int .i64 (c1 + x.len), .int .i64 (wrap64 (-x.grade)), .int .i64 (x.slow)] 41)).alloc (.cells #[.int .i64 c1, .int .i64 (c1 + x.len), .int .i64 (wrap64 (-x.grade)), .int .i64 (x.slow)] 41))) := eal (eal XY.out _) _
        have CZ : Hid (CellsAt ((y.val.alloc (.cells #[.int .i64 c1, .int .i64 (c1 + x.len), .int .i64 (wrap64 (-x.grade)), .int .i64 (x.slow)] 41)).alloc (.cells #[.int .i64 c1, .int .i64 (c1 + x.len), .int .i64 (wrap64 (-x.grade)), .int .i64 (x.slow)] 41)) (y.val.heap.size + 1) (List.flatMap Sgc [segO negW L.els ⟨kE, sin, sout⟩ c1])) := by
          rw [HSEG.out]
          exact CellsAt.new (by simp)
        go_wp2_with (at_builtin
                     refine wp_appL (u := w) Sgc_len Sgc_one Tryd.underlying34 HII.out hz0 hz1 hz2 rfl (by decide) rfl rfl rfl (H.out.2.2.1.keep XZ.out) (etr H.out.1 XZ.out) [segO negW L.els ⟨kE, sin, sout⟩ c1] (some ⟨y.val.heap.size + 1, 0, none⟩) 1 (by simp [go_sem]) (rd_cells Sgc_len CZ.out) (by rw [HOL.out]; simp; omega) (by rw [HOL.out]; unfold maxLen; simp; omega) ?_
                     intro v6 w6 H6
                     have n1 : y.val.heap.size < w6.heap.size := by have := H6.out.2.2.1.size; simp at this; omega
                     have n2 : w6.cell? ⟨y.val.heap.size, 1, none⟩ = some (.int .i64 (c1 + x.len)) := ((CellsAt.keep (CellsAt.new (w := y.val) (cs := #[.int .i64 c1, .int .i64 (c1 + x.len), .int .i64 (wrap64 (-x.grade)), .int .i64 (x.slow)]) (t := 41) rfl) (eal (Ext.refl _) _)).grown H6.out.2.2.1 (fun e => by have h1 := (H.out.2.2.1.lt _ e).2; have h2 := XY.out.size; omega)).2 1 _ rfl)
        have HOW : Hid (OwnL w6 w.heap.size 41 4 Sgc v6 (ofTo negW L.els way o (k + 1))) := by
          show OwnL _ _ _ _ _ _ _
          rw [ofTo_succ negW HS.out, ← H.out.2.2.2.2.1]
          exact H6.out.1
        go_roundg (way.length - (k + 1))
        case measure => have := HG.out; omega
        case rel => exact ⟨k + 1, c1 + x.len, by go_num, rfl, by omega, rfl, H6.out.2.1, (H.out.2.1.keep XZ.out).grown H6.out.2.2.1 H.out.2.2.2.1, HOW.out, H6.out.2.2.2 _ H.out.2.2.2.1 (Nat.lt_of_lt_of_le H.out.2.1.1 XZ.out.size), HB.out, H.out.2.2.2.2.2.1.succ HS.out HOKS.out, by omega, by push_cast; omega⟩
      · have HSEG : Hid (segO negW L.els ⟨kE, sin, sout⟩ c1 = ⟨c1, c1 + x.len, wrap64 (-x.grade), x.speed⟩) := by
          show _ = _
          unfold segO gradV spdV spdB fwdS negW
          simp only [HXE.out, b0, b1, b3, b4, Bool.true_and, Bool.false_and, Bool.and_true, Bool.and_false, Bool.true_or, Bool.false_or, Bool.or_true, Bool.or_false, if_true, if_false, Bool.false_eq_true, ite_true, ite_false, reduceIte]
        clear hex1 hex2
        go_upto_region 14 with (go_at_call 24; refine (to_after (rneed_any x.kind sin sout _)).mono ?_; rw [HN.out]; rintro e w' ⟨y, rfl, rfl⟩)
        have XY : Hid (Ext wr y.val) := etr X4.out y.is
        have hy1 : wr.heap.size + 1 < y.val.heap.size := by have := y.is.size; simp at this; omega
        have hy0 : wr.heap.size < y.val.heap.size := by omega
        have hyw : w.heap.size < y.val.heap.size := by omega
        go_upto_region 18 with (fail)
        have XZ : Hid (Ext wr ((y.val.alloc (.cells #[.int .i64 c1, .int .i64 (c1 + x.len), .int .i64 (wrap64 (-x.grade)), .int .i64 (x.speed)] 41)).alloc (.cells #[.int .i64 c1, .int .i64 (c1 + x.len), .int .i64 (wrap64 (-x.grade)), .int .i64 (x.speed)] 41))) := eal (eal XY.out _) _
        have CZ : Hid (CellsAt ((y.val.alloc (.cells #[.int .i64 c1, .int .i64 (c1 + x.len), .int .i64 (wrap64 (-x.grade)), .int .i64 (x.speed)] 41)).alloc (.cells #[.int .i64 c1, .int .i64 (c1 + x.len), .int .i64 (wrap64 (-x.grade)), .int .i64 (x.speed)] 41)) (y.val.heap.size + 1) (List.flatMap Sgc [segO negW L.els ⟨kE, sin, sout⟩ c1])) := by
          rw [HSEG.out]
          exact CellsAt.new (by simp)
        go_wp2_with (at_builtin
                     refine wp_appL (u := w) Sgc_len Sgc_one Tryd.underlying34 HII.out hz0 hz1 hz2 rfl (by decide) rfl rfl rfl (H.out.2.2.1.keep XZ.out) (etr H.out.1 XZ.out) [segO negW L.els ⟨kE, sin, sout⟩ c1] (some ⟨y.val.heap.size + 1, 0, none⟩) 1 (by simp [go_sem]) (rd_cells Sgc_len CZ.out) (by rw [HOL.out]; simp; omega) (by rw [HOL.out]; unfold maxLen; simp; omega) ?_
                     intro v6 w6 H6
                     have n1 : y.val.heap.size < w6.heap.size := by have := H6.out.2.2.1.size; simp at this; omega
                     have n2 : w6.cell? ⟨y.val.heap.size, 1, none⟩ = some (.int .i64 (c1 + x.len)) := ((CellsAt.keep (CellsAt.new (w := y.val) (cs := #[.int .i64 c1, .int .i64 (c1 + x.len), .int .i64 (wrap64 (-x.grade)), .int .i64 (x.speed)]) (t := 41) rfl) (eal (Ext.refl _) _)).grown H6.out.2.2.1 (fun e => by have h1 := (H.out.2.2.1.lt _ e).2; have h2 := XY.out.size; omega)).2 1 _ rfl)
        have HOW : Hid (OwnL w6 w.heap.size 41 4 Sgc v6 (ofTo negW L.els way o (k + 1))) := by
          show OwnL _ _ _ _ _ _ _
          rw [ofTo_succ negW HS.out, ← H.out.2.2.2.2.1]
          exact H6.out.1
        go_roundg (way.length - (k + 1))
        case measure => have := HG.out; omega
        case rel => exact ⟨k + 1, c1 + x.len, by go_num, rfl, by omega, rfl, H6.out.2.1, (H.out.2.1.keep XZ.out).grown H6.out.2.2.1 H.out.2.2.2.1, HOW.out, H6.out.2.2.2 _ H.out.2.2.2.1 (Nat.lt_of_lt_of_le H.out.2.1.1 XZ.out.size), HB.out, H.out.2.2.2.2.2.1.succ HS.out HOKS.out, by omega, by push_cast; omega⟩
      · exact absurd hbad hex1
      · exact absurd hbad hex2
    · have e : k = way.length := by omega
      subst e
      obtain ⟨q, hq⟩ : ∃ q, q = ofTo negW L.els way o way.length := ⟨_, rfl⟩
      have hqf : q = ofF negW L.els way o := by rw [hq]; unfold ofTo; rw [List.take_length]
      have hOW := H.out.2.2.1
      rw [← hq] at hOW
      obtain ⟨A7, c7, rfl, hr7, hm7⟩ := hOW.rd Sgc_len
      have HR7 := Lib.hid hr7
      have HM7 := Lib.hid hm7
      have HQF := Lib.hid hqf
      have HH := Lib.hid H.out.1
      have HOKA : Hid (OfOk L.els way) := fun i s hs => H.out.2.2.2.2.2.1 i s (List.getElem?_eq_some_iff.1 hs).1 hs
      clear hr7 hm7 hqf hq hOW
      cases hv : validB q
      · have HV : Hid (ofL negW L.els way o = []) := ofL_inv negW (by rw [← HQF.out]; exact validB_false.1 hv)
        have HVB := Lib.hid hv
        clear hv
        go_wp2_with (go_at_call 25; refine (rvalid_any A7 q c7 _ HM7.out HR7.out).mono ?_; rw [HVB.out]; rintro e w8 ⟨rfl, hb⟩; have H8 := Lib.hid hb; clear hb)
        go_ret
        exact RetP.nil HV.out (etr HH.out H8.out)
      · have HV : Hid (ofL negW L.els way o = q) := by
          show _ = _
          rw [HQF.out]
          exact ofL_yes negW hwl (.inr HO0.out) HOKA.out (by rw [← HQF.out]; exact validB_true.1 hv)
        have HVB := Lib.hid hv
        clear hv
        go_wp2_with (go_at_call 25; refine (rvalid_any A7 q c7 _ HM7.out HR7.out).mono ?_; rw [HVB.out]; rintro e w8 ⟨rfl, hb⟩; have H8 := Lib.hid hb; clear hb)
        go_ret
        rw [HV.out]
        exact ⟨A7, c7, rfl, HR7.out.keep H8.out, etr HH.out H8.out⟩
end Go.Proofs.YtoodehilgogomaaDoor
