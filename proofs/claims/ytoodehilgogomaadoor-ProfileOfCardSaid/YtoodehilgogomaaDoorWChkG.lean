/- Walks of signallingref07.balises and Check; signallinglaw43.few. -/
import Derived.Test.YtoodehilgogomaaDoorWChkF
set_option linter.unusedVariables false
set_option linter.unusedSimpArgs false
set_option maxRecDepth 100000
namespace Go.Proofs.YtoodehilgogomaaDoor
open Go.ChangeShapes Go.WideShapes Go.ChangeAt Go.RowKit
open Sg

set_option maxHeartbeats 16000000 in
theorem balises_any (L : Lay) (w : World) (hL : LayOk w L) (hF : FewL L) : Calls Tryd.prog 14 #[.agg #[.string L.name, .slice L.aS L.secs.length L.cS, .slice L.aE L.els.length L.cE, .slice L.aJ L.jts.length L.cJ, .slice L.aG L.sgs.length L.cG, .slice L.aB L.bals.length L.cB]] w (RetE (fun _ => True) w) := by
  obtain ⟨i0, hi, hz0, hz1, hz2⟩ := info_parts inf_Int
  have HII := Lib.hid hi
  have HL := Lib.hid hL
  have hf3 := hF.2.2.2.2
  have hmE := hL.lE
  unfold maxLen at hmE
  clear hi hL hF
  go_enter Tryd.func14, Tryd.ntmps14
  go_wp2
  go_loopg [3, 9] L.bals.length (fun g x3 ix wr => ∃ (k : Nat) (xs : List Int), ix = .int .i64 k ∧ k ≤ L.bals.length ∧ g = L.bals.length - k ∧ Hid (Ext w wr ∧ LayAt wr w.heap.size L ∧ OwnL wr w.heap.size 3 1 Nmc x3 xs ∧ x3.ownBlock ≠ some w.heap.size ∧ xs.length ≤ k))
  case atStart => exact ⟨0, [], rfl, by omega, by omega, eal (Ext.refl _) _, CellsAt.new rfl, OwnL.nil, by simp [Value.ownBlock], by simp⟩
  case round =>
    obtain ⟨k, xs, rfl, hk, hg, H⟩ := hrel
    have HG := Lib.hid hg
    clear hg
    obtain ⟨l0, a0, a1, a2, a3, a4, a5⟩ := layAt_cells H.out.2.1
    have l1 := lt_up2 l0
    have hxl := H.out.2.2.2.2
    by_cases hlt : k < L.bals.length
    · obtain ⟨b, off, x, hA, hs, hbs, c0, c1, c2⟩ := rd_ba HL.out.hB H.out.1 hlt
      have HA := Lib.hid hA
      have E4 : Hid (Ext w (wr.alloc (.cells #[.int .i64 x.id, .int .i64 x.el, .int .i64 x.off] 73))) := eal H.out.1 _
      have X4 : Hid (Ext wr (wr.alloc (.cells #[.int .i64 x.id, .int .i64 x.el, .int .i64 x.off] 73))) := eal (Ext.refl _) _
      rw [hA]
      clear hs hA
      have key : ((decide (x.id < 1) = true) ∨ (decide (x.id < 1) = false ∧ decide (1073741824 < x.id) = true) ∨ (decide (x.id < 1) = false ∧ decide (1073741824 < x.id) = false ∧ decide (x.el < 0) = true) ∨ (decide (x.id < 1) = false ∧ decide (1073741824 < x.id) = false ∧ decide (x.el < 0) = false ∧ decide ((L.els.length : Int) ≤ x.el) = true) ∨ (decide (x.id < 1) = false ∧ decide (1073741824 < x.id) = false ∧ decide (x.el < 0) = false ∧ decide ((L.els.length : Int) ≤ x.el) = false ∧ decide (x.off < 0) = true)) ∨ (decide (x.id < 1) = false ∧ decide (1073741824 < x.id) = false ∧ decide (x.el < 0) = false ∧ decide ((L.els.length : Int) ≤ x.el) = false ∧ decide (x.off < 0) = false) := by
        cases decide (x.id < 1) <;> cases decide (1073741824 < x.id) <;> cases decide (x.el < 0) <;> cases decide ((L.els.length : Int) ≤ x.el) <;> cases decide (x.off < 0) <;> simp
      rcases key with key | ⟨q1, q2, q3, q4, q5⟩
      · rcases key with q1 | ⟨q1, q2⟩ | ⟨q1, q2, q3⟩ | ⟨q1, q2, q3, q4⟩ | ⟨q1, q2, q3, q4, q5⟩
        iterate 5
          · go_wp2
            refine wp_region_after (by kernel_rfl) (by kernel_rfl) ?_
            repeat (first | go_big_quiet_step (fail))
            refine wpQuiet_nil ?_
            rintro _ ⟨y, rfl⟩
            go_wp2
            go_ret
            exact RetE.mk trivial (etr E4.out y.is)
      · have hel : hasEl L.els x.el := ⟨by have := of_decide_eq_false q3; omega, by have := of_decide_eq_false q4; omega⟩
        obtain ⟨kE, xe, hke, hx, hxe⟩ := has_at hel
        obtain ⟨bE, oE, x', hAE, hx', hbE, e0, e1, e2, e3, e4, e5, e6⟩ := rd_el HL.out.hE H.out.1 (List.getElem?_eq_some_iff.1 hx).1
        rw [hx] at hx'
        cases hx'
        have hkE := (List.getElem?_eq_some_iff.1 hx).1
        have HAE := Lib.hid hAE
        obtain ⟨xid, xel, xoff⟩ := x
        obtain rfl : xel = (kE : Int) := hke
        simp only [] at q1 q2 q3 q4 q5 c0 c1 c2 E4 X4
        have q4n : decide (L.els.length ≤ kE) = false := decide_eq_false (by omega)
        have hbE1 := lt_up2 hbE
        have hl : L.els.length ≤ 9223372036854775807 := by omega
        rw [hAE] at a2 ⊢
        clear hx hxe hAE hel
        go_wp2
        refine wp_region_after (by kernel_rfl) (by kernel_rfl) ?_
        repeat (first | go_big_quiet_step (fail))
        refine wpQuiet_nil ?_
        rintro _ ⟨y, rfl⟩
        by_cases q6 : xe.len < xoff
        · go_wp2
          go_ret
          exact RetE.mk trivial (etr E4.out y.is)
        · have X5 : Hid (Ext wr (y.val.alloc (.cells #[.int .i64 xid] 3))) := etr X4.out (eal y.is _)
          have C5 : Hid (CellsAt (y.val.alloc (.cells #[.int .i64 xid] 3)) y.val.heap.size (List.flatMap Nmc [xid])) := CellsAt.new rfl
          go_wp2_with (at_builtin
                       refine wp_appL (u := w) Nmc_len Nmc_one Tryd.underlying59 HII.out hz0 hz1 hz2 rfl (by decide) rfl rfl rfl (H.out.2.2.1.keep X5.out) (etr H.out.1 X5.out) [xid] (some ⟨y.val.heap.size, 0, none⟩) 1 (by simp [go_sem]) (rd_cells Nmc_len C5.out) (by simp; omega) (by simp; unfold maxLen; omega) ?_
                       intro v1 w6 H6)
          rw [← HA.out, ← HAE.out]
          go_roundg (L.bals.length - (k + 1))
          case measure => have := HG.out; omega
          case rel => exact ⟨k + 1, _, by go_num, by omega, rfl, H6.out.2.1, (H.out.2.1.keep X5.out).grown H6.out.2.2.1 H.out.2.2.2.1, H6.out.1, H6.out.2.2.2 _ H.out.2.2.2.1 (Nat.lt_of_lt_of_le H.out.2.1.1 X5.out.size), by simp; omega⟩
    · obtain ⟨A1, c1, rfl, hr1, hm1⟩ := H.out.2.2.1.rd Nmc_len
      have HR1 := Lib.hid hr1
      have HM1 := Lib.hid hm1
      clear hr1 hm1
      go_wp2_with (go_at_call 34; refine (numbers_any A1 xs c1 _ HM1.out HR1.out).mono ?_; rintro e w7 ⟨bb, rfl, _, hb7⟩; have H7 := Lib.hid hb7; clear hb7)
      all_goals go_ret
      all_goals exact RetE.mk trivial (etr H.out.1 H7.out)
set_option maxHeartbeats 8000000 in
theorem check_lay (L : Lay) (w : World) (hL : LayOk w L) (hF : FewL L) : Calls Tryd.prog 5 #[.agg #[.string L.name, .slice L.aS L.secs.length L.cS, .slice L.aE L.els.length L.cE, .slice L.aJ L.jts.length L.cJ, .slice L.aG L.sgs.length L.cG, .slice L.aB L.bals.length L.cB]] w (RetE (fun n => n = 0 → ElsOk L.els) w) := by
  have HL := Lib.hid hL
  have HF := Lib.hid hF
  clear hL hF
  have E0 : Hid (Ext w (w.alloc (.cells #[.string L.name, .slice L.aS L.secs.length L.cS, .slice L.aE L.els.length L.cE, .slice L.aJ L.jts.length L.cJ, .slice L.aG L.sgs.length L.cG, .slice L.aB L.bals.length L.cB] 28))) := eal (Ext.refl _) _
  have L0 : Hid (LayAt (w.alloc (.cells #[.string L.name, .slice L.aS L.secs.length L.cS, .slice L.aE L.els.length L.cE, .slice L.aJ L.jts.length L.cJ, .slice L.aG L.sgs.length L.cG, .slice L.aB L.bals.length L.cB] 28)) w.heap.size L) := CellsAt.new rfl
  go_enter Tryd.func5, Tryd.ntmps5
  go_upto_region 2 with (go_at_call 11; refine (named_any L _ (HL.out.keep E0.out) HF.out).mono ?_; rintro e w1 ⟨n1, rfl, _, hb⟩; have H1 := Lib.hid hb; clear hb)
  obtain ⟨l0, a0, a1, a2, a3, a4, a5⟩ := layAt_cells (L0.out.keep H1.out)
  by_cases h1 : n1 = 0
  rotate_left
  · have q1 : (n1 != 0) = true := by simpa using h1
    have HN1 := Lib.hid h1
    clear h1
    go_wp2
    go_ret
    exact RetE.mk (fun h => absurd h HN1.out) (etr E0.out H1.out)
  subst h1
  go_upto_region 5 with (go_at_call 12; refine (elements_any L _ (HL.out.keep (etr E0.out H1.out)) HF.out).mono ?_; rintro e w2 ⟨n2, rfl, hp, hb⟩; have H2 := Lib.hid hb; have HP := Lib.hid hp; clear hb hp)
  clear l0 a0 a1 a2 a3 a4 a5
  obtain ⟨l0, a0, a1, a2, a3, a4, a5⟩ := layAt_cells ((L0.out.keep H1.out).keep H2.out)
  by_cases h2 : n2 = 0
  rotate_left
  · have q1 : (n2 != 0) = true := by simpa using h2
    have HN2 := Lib.hid h2
    clear h2
    go_wp2
    go_ret
    exact RetE.mk (fun h => absurd h HN2.out) (etr (etr E0.out H1.out) H2.out)
  subst h2
  have HOK : Hid (ElsOk L.els ∧ JtsOk L.els L.jts) := HP.out rfl
  go_upto_region 8 with (go_at_call 13; refine (signals_any L _ (HL.out.keep (etr (etr E0.out H1.out) H2.out)) HF.out HOK.out.2).mono ?_; rintro e w3 ⟨n3, rfl, _, hb⟩; have H3 := Lib.hid hb; clear hb)
  clear l0 a0 a1 a2 a3 a4 a5
  obtain ⟨l0, a0, a1, a2, a3, a4, a5⟩ := layAt_cells (((L0.out.keep H1.out).keep H2.out).keep H3.out)
  by_cases h3 : n3 = 0
  rotate_left
  · have q1 : (n3 != 0) = true := by simpa using h3
    have HN3 := Lib.hid h3
    clear h3
    go_wp2
    go_ret
    exact RetE.mk (fun h => absurd h HN3.out) (etr (etr (etr E0.out H1.out) H2.out) H3.out)
  subst h3
  go_wp2_with (go_at_call 14; refine (balises_any L _ (HL.out.keep (etr (etr (etr E0.out H1.out) H2.out) H3.out)) HF.out).mono ?_; rintro e w4 ⟨n4, rfl, _, hb⟩; have H4 := Lib.hid hb; clear hb)
  go_ret
  exact RetE.mk (fun _ => HOK.out.1) (etr (etr (etr (etr E0.out H1.out) H2.out) H3.out) H4.out)
end Go.Proofs.YtoodehilgogomaaDoor
