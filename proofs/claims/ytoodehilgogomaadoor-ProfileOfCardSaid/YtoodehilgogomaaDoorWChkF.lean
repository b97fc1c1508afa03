/- Walks of signallingref07.signals, balises, Check; signallinglaw43.few. -/
import Derived.Test.YtoodehilgogomaaDoorWChkD
import Derived.Test.YtoodehilgogomaaDoorWChkE
import Derived.Test.YtoodehilgogomaaDoorWLayC
set_option linter.unusedVariables false
set_option linter.unusedSimpArgs false
set_option maxRecDepth 100000
namespace Go.Proofs.YtoodehilgogomaaDoor
open Go.ChangeShapes Go.WideShapes Go.ChangeAt Go.RowKit
open Sg

theorem join_has {els : List Elm} {jts : List Jnt} {e f : Sg.End} (h : JtsOk els jts) (hj : joinO jts e = some f) : hasEl els f.el := by
  obtain ⟨j, hm, hf⟩ := joinO_mem hj
  obtain ⟨i, hi, rfl⟩ := List.getElem_of_mem hm
  have := h i _ (List.getElem?_eq_getElem hi)
  rcases hf with rfl | rfl
  · exact this.2
  · exact this.1
theorem joined_ab (L : Lay) (a b : Int) (w : World) (hL : LayOk w L) : Calls Tryd.prog 33 #[.agg #[.string L.name, .slice L.aS L.secs.length L.cS, .slice L.aE L.els.length L.cE, .slice L.aJ L.jts.length L.cJ, .slice L.aG L.sgs.length L.cG, .slice L.aB L.bals.length L.cB], .agg #[.int .i64 a, .int .i64 b]] w fun r w' => r = .returned (.tuple #[.agg #[.int .i64 (joinV L.jts ⟨a, b⟩).el, .int .i64 (joinV L.jts ⟨a, b⟩).side], .bool (joinB L.jts ⟨a, b⟩)]) ∧ Below w.heap.size w w' := rjoined_any L ⟨a, b⟩ w hL
set_option maxHeartbeats 16000000 in
theorem signals_any (L : Lay) (w : World) (hL : LayOk w L) (hF : FewL L) (hJ : JtsOk L.els L.jts) : Calls Tryd.prog 13 #[.agg #[.string L.name, .slice L.aS L.secs.length L.cS, .slice L.aE L.els.length L.cE, .slice L.aJ L.jts.length L.cJ, .slice L.aG L.sgs.length L.cG, .slice L.aB L.bals.length L.cB]] w (RetE (fun _ => True) w) := by
  obtain ⟨i0, hi, hz0, hz1, hz2⟩ := info_parts inf_En
  have HII := Lib.hid hi
  have HL := Lib.hid hL
  have HJ := Lib.hid hJ
  have hf3 := hF.2.2.2.1
  have hmE := hL.lE
  unfold maxLen at hmE
  clear hi hL hJ hF
  go_enter Tryd.func13, Tryd.ntmps13
  go_wp2
  go_loopg [3, 13] L.sgs.length (fun g x3 ix wr => ∃ (k : Nat) (xs : List Sg.End), ix = .int .i64 k ∧ k ≤ L.sgs.length ∧ g = L.sgs.length - k ∧ Hid (Ext w wr ∧ LayAt wr w.heap.size L ∧ OwnL wr w.heap.size 63 2 Enc x3 xs ∧ x3.ownBlock ≠ some w.heap.size ∧ xs.length ≤ k ∧ ∀ x ∈ xs, hasEl L.els x.el))
  case atStart => exact ⟨0, [], rfl, by omega, by omega, eal (Ext.refl _) _, CellsAt.new rfl, OwnL.nil, by simp [Value.ownBlock], by simp, fun x h => by cases h⟩
  case round =>
    obtain ⟨k, xs, rfl, hk, hg, H⟩ := hrel
    have HG := Lib.hid hg
    clear hg
    obtain ⟨l0, a0, a1, a2, a3, a4, a5⟩ := layAt_cells H.out.2.1
    have l1 := lt_up2 l0
    have hxl := H.out.2.2.2.2.1
    by_cases hlt : k < L.sgs.length
    · obtain ⟨b, off, x, hA, hs, hbs, c0, c1, c2, c3⟩ := rd_sg HL.out.hG H.out.1 hlt
      have HA := Lib.hid hA
      have E4 : Hid (Ext w (wr.alloc (.cells #[.string x.name, .int .i64 x.el, .int .i64 x.side, .int .i64 x.ovl] 69))) := eal H.out.1 _
      have X4 : Hid (Ext wr (wr.alloc (.cells #[.string x.name, .int .i64 x.el, .int .i64 x.side, .int .i64 x.ovl] 69))) := eal (Ext.refl _) _
      rw [hA]
      clear hs hA
      have key : (exB L.els ⟨x.el, x.side⟩ = false) ∨ (exB L.els ⟨x.el, x.side⟩ = true ∧ decide (x.ovl < 0) = true) ∨ (exB L.els ⟨x.el, x.side⟩ = true ∧ decide (x.ovl < 0) = false ∧ decide (1000000 < x.ovl) = true) ∨ (exB L.els ⟨x.el, x.side⟩ = true ∧ decide (x.ovl < 0) = false ∧ decide (1000000 < x.ovl) = false) := by
        cases exB L.els ⟨x.el, x.side⟩ <;> cases decide (x.ovl < 0) <;> cases decide (1000000 < x.ovl) <;> simp
      rcases key with q1 | ⟨q1, q2⟩ | ⟨q1, q2, q3⟩ | ⟨q1, q2, q3⟩
      iterate 3
        · go_wp2_with (go_at_call 31; refine (to_after (exist_ab L _ _ _ (HL.out.keep E4.out))).mono ?_; rintro e w' ⟨y, rfl, rfl⟩)
          go_ret
          exact RetE.mk trivial (etr E4.out (After.is _))
      · have HQ := Lib.hid (exB_has q1)
        go_upto_region 7 with (go_at_call 31; refine (to_after (exist_ab L _ _ _ (HL.out.keep E4.out))).mono ?_; rintro e w' ⟨y, rfl, rfl⟩)
        have X5 : Hid (Ext wr (y.val.alloc (.cells #[.int .i64 x.el, .int .i64 x.side] 63))) := etr X4.out (eal y.is _)
        have C5 : Hid (CellsAt (y.val.alloc (.cells #[.int .i64 x.el, .int .i64 x.side] 63)) y.val.heap.size (List.flatMap Enc [⟨x.el, x.side⟩])) := CellsAt.new rfl
        go_wp2_with (at_builtin
                     refine wp_appL (u := w) Enc_len Enc_one Tryd.underlying61 HII.out hz0 hz1 hz2 rfl (by decide) rfl rfl rfl (H.out.2.2.1.keep X5.out) (etr H.out.1 X5.out) [⟨x.el, x.side⟩] (some ⟨y.val.heap.size, 0, none⟩) 1 (by simp [go_sem]) (rd_cells Enc_len C5.out) (by simp; omega) (by simp; unfold maxLen; omega) ?_
                     intro v1 w6 H6)
        rw [← HA.out]
        go_roundg (L.sgs.length - (k + 1))
        case measure => have := HG.out; omega
        case rel => exact ⟨k + 1, _, by go_num, by omega, rfl, H6.out.2.1, (H.out.2.1.keep X5.out).grown H6.out.2.2.1 H.out.2.2.2.1, H6.out.1, H6.out.2.2.2 _ H.out.2.2.2.1 (Nat.lt_of_lt_of_le H.out.2.1.1 X5.out.size), by simp; omega, fun z hz => by
          rcases List.mem_append.1 hz with hm | hm
          · exact H.out.2.2.2.2.2 z hm
          · simp at hm; subst hm; exact HQ.out⟩
    · obtain ⟨A1, c1, rfl, hr1, hm1⟩ := H.out.2.2.1.rd Enc_len
      have HR1 := Lib.hid hr1
      have HM1 := Lib.hid hm1
      have HH := Lib.hid H.out
      clear hr1 hm1
      go_wp2_with (go_at_call 32; refine (ends_any A1 xs c1 _ HM1.out HR1.out).mono ?_; rintro e w7 ⟨bb, rfl, _, hb7⟩; have H7 := Lib.hid hb7; clear hb7; cases bb)
      rotate_left
      · go_ret
        exact RetE.mk trivial (etr HH.out.1 H7.out)
      clear a0 a1 a2 a3 a4 a5 l0 l1
      go_loopg [42] xs.length (fun g ix wr => ∃ k : Nat, ix = .int .i64 k ∧ k ≤ xs.length ∧ g = xs.length - k ∧ Hid (Ext w7 wr))
      case atStart => exact ⟨0, rfl, by omega, by omega, Ext.refl _⟩
      case round =>
        obtain ⟨k, rfl, hk, hg, H2⟩ := hrel
        have HG := Lib.hid hg
        clear hg
        have EW : Hid (Ext w wr) := etr (etr HH.out.1 H7.out) H2.out
        by_cases hlt : k < xs.length
        · obtain ⟨b, off, x, rfl, hs, hbs, c0, c1⟩ := rd_en HR1.out (etr H7.out H2.out) hlt
          have hh := HH.out.2.2.2.2.2 x (List.mem_of_getElem? hs)
          obtain ⟨kE, xe, hel, hx, hxe⟩ := has_at hh
          have E4 : Hid (Ext w (wr.alloc (.cells #[.int .i64 x.el, .int .i64 x.side] 63))) := eal EW.out _
          obtain ⟨l0, a0, a1, a2, a3, a4, a5⟩ := layAt_cells ((HH.out.2.1.keep H7.out).keep H2.out)
          have l1 := lt_up2 l0
          clear hs
          cases hj : joinO L.jts x with
          | none =>
            have q1 : joinB L.jts ⟨x.el, x.side⟩ = false := by unfold joinB; rw [show (⟨x.el, x.side⟩ : Sg.End) = x from rfl, hj]; rfl
            clear hj hx hxe hel
            go_wp2_with (go_at_call 33; refine (to_after (joined_ab L _ _ _ (HL.out.keep E4.out))).mono ?_; rintro e w' ⟨y, rfl, rfl⟩)
            refine wp_region_after (by kernel_rfl) (by kernel_rfl) ?_
            repeat (first | go_big_quiet_step (fail))
            refine wpQuiet_nil ?_
            rintro _ ⟨z, rfl⟩
            go_wp2
            go_ret
            exact RetE.mk trivial (etr (eal (etr E4.out y.is) _) z.is)
          | some f =>
            have q1 : joinB L.jts ⟨x.el, x.side⟩ = true := by unfold joinB; rw [show (⟨x.el, x.side⟩ : Sg.End) = x from rfl, hj]; rfl
            have q2 : joinV L.jts ⟨x.el, x.side⟩ = f := by unfold joinV; rw [show (⟨x.el, x.side⟩ : Sg.End) = x from rfl, hj]; rfl
            obtain ⟨kF, xf, hfl, hfx, hfe⟩ := has_at (join_has HJ.out hj)
            obtain ⟨fel, fsi⟩ := f
            obtain ⟨xel, xsi⟩ := x
            obtain rfl : fel = (kF : Int) := hfl
            obtain rfl : xel = (kE : Int) := hel
            simp only [] at q1 q2 c0 c1 E4
            have HX1 : Hid (∀ w' : World, Ext w w' → ∃ bE oE, L.aE = some ⟨bE, oE, none⟩ ∧ bE < w'.heap.size ∧ w'.cell? ⟨bE, oE + kE * 7 + 1 + 1 + 1 + 1 + 1 + 1, none⟩ = some (.int .i64 xe.sec) ∧ w'.cell? ⟨bE, oE + kF * 7 + 1 + 1 + 1 + 1 + 1 + 1, none⟩ = some (.int .i64 xf.sec)) := fun w' h => by
              obtain ⟨bE, oE, x', hA, hx', hbE, _, _, _, _, _, _, e6⟩ := rd_el HL.out.hE h (List.getElem?_eq_some_iff.1 hx).1
              rw [hx] at hx'; cases hx'
              obtain ⟨_, _, _, _, _, _, _, f6⟩ := rd_el_at (hA ▸ HL.out.hE) h hfx
              exact ⟨bE, oE, hA, hbE, e6, f6⟩
            have hkE := (List.getElem?_eq_some_iff.1 hx).1
            have hkF := (List.getElem?_eq_some_iff.1 hfx).1
            clear hj hx hxe hfx hfe
            go_upto_region 15 with (go_at_call 33; refine (to_after (joined_ab L _ _ _ (HL.out.keep E4.out))).mono ?_; rw [q2]; rintro e w' ⟨y, rfl, rfl⟩)
            have E5 : Hid (Ext w (y.val.alloc (.cells #[.int .i64 kF, .int .i64 fsi] 63))) := eal (etr E4.out y.is) _
            obtain ⟨bE, oE, hA, hbE, e6, f6⟩ := HX1.out _ E5.out
            have L5 : Hid (LayAt (y.val.alloc (.cells #[.int .i64 kF, .int .i64 fsi] 63)) w.heap.size L) := (((HH.out.2.1.keep H7.out).keep H2.out).keep (etr (eal (Ext.refl _) _) y.is)).keep (eal (Ext.refl _) _)
            have P5 : Hid (CellsAt (y.val.alloc (.cells #[.int .i64 kF, .int .i64 fsi] 63)) wr.heap.size [.int .i64 kE, .int .i64 xsi]) := (CellsAt.keep (CellsAt.new rfl) y.is).keep (eal (Ext.refl _) _)
            have F5 : Hid (CellsAt (y.val.alloc (.cells #[.int .i64 kF, .int .i64 fsi] 63)) y.val.heap.size [.int .i64 kF, .int .i64 fsi]) := CellsAt.new rfl
            obtain ⟨w5, hw5⟩ : ∃ w5, w5 = y.val.alloc (.cells #[.int .i64 kF, .int .i64 fsi] 63) := ⟨_, rfl⟩
            rw [← hw5] at E5 L5 P5 F5 hbE e6 f6 ⊢
            have X5 : Hid (Ext wr w5) := hw5 ▸ eal (etr (eal (Ext.refl _) _) y.is) _
            clear hw5 l0 l1 a0 a1 a2 a3 a4 a5 c0 c1 hbs
            obtain ⟨l0, a0, a1, a2, a3, a4, a5⟩ := layAt_cells L5.out
            have p0 := P5.out.2 0 _ rfl
            have p9 := P5.out.1
            have f0 := F5.out.2 0 _ rfl
            have f9 := F5.out.1
            have hl : L.els.length ≤ 9223372036854775807 := by omega
            rw [hA] at a2
            clear hA
            go_wp2
            refine wp_region_after (by kernel_rfl) (by kernel_rfl) ?_
            repeat (first | go_big_quiet_step (fail))
            refine wpQuiet_nil ?_
            rintro _ ⟨z, rfl⟩
            rcases Bool.eq_false_or_eq_true (xf.sec == xe.sec) with q3 | q3
            · go_wp2
              go_ret
              exact RetE.mk trivial (etr E5.out z.is)
            · go_wp2
              go_roundg (xs.length - (k + 1))
              case measure => have := HG.out; omega
              case rel => exact ⟨k + 1, by go_num, by omega, rfl, etr H2.out (etr X5.out z.is)⟩
        · go_wp2
          go_ret
          exact RetE.mk trivial EW.out
end Go.Proofs.YtoodehilgogomaaDoor
