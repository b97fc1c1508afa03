/- Walks of package restriction's reference: Put. -/
import Derived.Test.YtacnfchoemndeaaDoorWRstC
set_option linter.unusedVariables false
set_option linter.unusedSimpArgs false
set_option maxRecDepth 100000
namespace Go.Proofs.YtacnfchoemndeaaDoor
open Go.ChangeShapes Go.WideShapes Go.ChangeAt Go.RowKit
open Sg

theorem sl_hi2 (A : Option Addr) (n c : Nat) (q : Int) (h0 : 0 ≤ q) (h1 : q ≤ (c : Int)) (w : World) : (Instr.slice 29 (.slice A n c) none (some (.int .i64 q)) none).run Tryd.prog w = .ok (.slice A q.toNat c) w := sl_hi A n c q.toNat q (by omega) (by omega) w
theorem sl_lo2 (A : Option Addr) (n c : Nat) (q : Int) (h0 : 0 ≤ q) (h1 : q ≤ (n : Int)) (w : World) : (Instr.slice 29 (.slice A n c) (some (.int .i64 q)) none none).run Tryd.prog w = .ok (.slice (dropA A c q.toNat 6) (n - q.toNat) (c - q.toNat)) w := sl_lo A n c q.toNat q (by omega) (by omega) w
attribute [go_sem] sl_hi2 sl_lo2
set_option maxHeartbeats 8000000 in
theorem rput_any (L : Lay) (r : Rst) (A : Option Addr) (l : List Rst) (c : Nat) (w : World) (hL : LayOk w L) (hm : l.length ≤ 400000) (hc : l.length ≤ c) (hr : Rd w A 6 Rsc l) :
    Calls Tryd.prog 11 #[.agg #[.string L.name, .slice L.aS L.secs.length L.cS, .slice L.aE L.els.length L.cE, .slice L.aJ L.jts.length L.cJ, .slice L.aG L.sgs.length L.cG, .slice L.aB L.bals.length L.cB], .slice A l.length c, .agg #[.int .i64 r.id, .int .i64 r.el, .int .i64 r.from_, .int .i64 r.to_, .int .i64 r.speed, .bool r.act]] w fun e w' => ∃ v, e = .returned (.tuple #[v, .int .i64 (putE L.els l r)]) ∧ OwnL w' w.heap.size 31 6 Rsc v (putL L.els l r) ∧ Below w.heap.size w w' := by
  have HM : Hid (l.length ≤ maxLen) := by show _ ≤ _; unfold maxLen; omega
  have HL := Lib.hid hL
  have HR := Lib.hid hr
  have HC := Lib.hid hc
  clear hL hr hc
  obtain ⟨i0, hi, hz0, hz1, hz2⟩ := info_parts inf_Rs
  have HI := Lib.hid hi
  clear hi
  by_cases ho : OkR L.els r
  · have HE : Hid (chkE L.els r = 0) := if_pos ho
    cases hx : idxR r.id l with
    | some i =>
      obtain ⟨e1, e2⟩ := put_dup (l := l) ho hx
      have E1 := Lib.hid e1
      have E2 := Lib.hid e2
      have HX : Hid (idxRV r.id l = i) := idxRV_some hx
      clear e1 e2 hx ho
      go_enter Tryd.func11, Tryd.ntmps11
      go_wp2_with fail
      refine (to_after (rchk_any L r _ (HL.out.keep (eal (eal (Ext.refl w) (.cells #[.string L.name, .slice L.aS L.secs.length L.cS, .slice L.aE L.els.length L.cE, .slice L.aJ L.jts.length L.cJ, .slice L.aG L.sgs.length L.cG, .slice L.aB L.bals.length L.cB] 28)) (.cells #[.int .i64 r.id, .int .i64 r.el, .int .i64 r.from_, .int .i64 r.to_, .int .i64 r.speed, .bool r.act] 31))))).mono ?_
      rintro e w' ⟨y, rfl, rfl⟩
      rw [HE.out]
      go_wp2_with fail
      refine (in_after y (place_rs A l c r.id _ HM.out (HR.out.keep (etr (eal (eal (Ext.refl w) (.cells #[.string L.name, .slice L.aS L.secs.length L.cS, .slice L.aE L.els.length L.cE, .slice L.aJ L.jts.length L.cJ, .slice L.aG L.sgs.length L.cG, .slice L.aB L.bals.length L.cB] 28)) (.cells #[.int .i64 r.id, .int .i64 r.el, .int .i64 r.from_, .int .i64 r.to_, .int .i64 r.speed, .bool r.act] 31)) y.is)))).mono ?_
      rintro e w' ⟨y2, rfl, rfl⟩
      rw [HX.out]
      have hi0 : (0 : Int) ≤ (i : Int) := by omega
      go_wp2_with fail
      go_ret2
      exact ⟨_, ret_vi E1.out.symm, by rw [E2.out]; exact OwnL.nil, etr (eal (eal (Ext.refl w) (.cells #[.string L.name, .slice L.aS L.secs.length L.cS, .slice L.aE L.els.length L.cE, .slice L.aJ L.jts.length L.cJ, .slice L.aG L.sgs.length L.cG, .slice L.aB L.bals.length L.cB] 28)) (.cells #[.int .i64 r.id, .int .i64 r.el, .int .i64 r.from_, .int .i64 r.to_, .int .i64 r.speed, .bool r.act] 31)) y2.is⟩
    | none =>
      have HX : Hid (idxRV r.id l = -1) := idxRV_none hx
      by_cases hl : 16 ≤ l.length
      · obtain ⟨e1, e2⟩ := put_full ho hx hl
        have E1 := Lib.hid e1
        have E2 := Lib.hid e2
        have hl' : (16 : Int) ≤ (l.length : Int) := by omega
        clear e1 e2 hx ho
        go_enter Tryd.func11, Tryd.ntmps11
        go_wp2_with fail
        refine (to_after (rchk_any L r _ (HL.out.keep (eal (eal (Ext.refl w) (.cells #[.string L.name, .slice L.aS L.secs.length L.cS, .slice L.aE L.els.length L.cE, .slice L.aJ L.jts.length L.cJ, .slice L.aG L.sgs.length L.cG, .slice L.aB L.bals.length L.cB] 28)) (.cells #[.int .i64 r.id, .int .i64 r.el, .int .i64 r.from_, .int .i64 r.to_, .int .i64 r.speed, .bool r.act] 31))))).mono ?_
        rintro e w' ⟨y, rfl, rfl⟩
        rw [HE.out]
        go_wp2_with fail
        refine (in_after y (place_rs A l c r.id _ HM.out (HR.out.keep (etr (eal (eal (Ext.refl w) (.cells #[.string L.name, .slice L.aS L.secs.length L.cS, .slice L.aE L.els.length L.cE, .slice L.aJ L.jts.length L.cJ, .slice L.aG L.sgs.length L.cG, .slice L.aB L.bals.length L.cB] 28)) (.cells #[.int .i64 r.id, .int .i64 r.el, .int .i64 r.from_, .int .i64 r.to_, .int .i64 r.speed, .bool r.act] 31)) y.is)))).mono ?_
        rintro e w' ⟨y2, rfl, rfl⟩
        rw [HX.out]
        go_wp2_with fail
        go_ret2
        exact ⟨_, ret_vi E1.out.symm, by rw [E2.out]; exact OwnL.nil, etr (eal (eal (Ext.refl w) (.cells #[.string L.name, .slice L.aS L.secs.length L.cS, .slice L.aE L.els.length L.cE, .slice L.aJ L.jts.length L.cJ, .slice L.aG L.sgs.length L.cG, .slice L.aB L.bals.length L.cB] 28)) (.cells #[.int .i64 r.id, .int .i64 r.el, .int .i64 r.from_, .int .i64 r.to_, .int .i64 r.speed, .bool r.act] 31)) y2.is⟩
      · obtain ⟨e1, e2⟩ := put_ok ho hx hl
        have E1 := Lib.hid e1
        have E2 := Lib.hid e2
        have HXO := Lib.hid hx
        have hl' : decide ((16 : Int) ≤ (l.length : Int)) = false := decide_eq_false (by omega)
        clear e1 e2 hx ho
        go_enter Tryd.func11, Tryd.ntmps11
        go_wp2_with fail
        refine (to_after (rchk_any L r _ (HL.out.keep (eal (eal (Ext.refl w) (.cells #[.string L.name, .slice L.aS L.secs.length L.cS, .slice L.aE L.els.length L.cE, .slice L.aJ L.jts.length L.cJ, .slice L.aG L.sgs.length L.cG, .slice L.aB L.bals.length L.cB] 28)) (.cells #[.int .i64 r.id, .int .i64 r.el, .int .i64 r.from_, .int .i64 r.to_, .int .i64 r.speed, .bool r.act] 31))))).mono ?_
        rintro e w' ⟨y, rfl, rfl⟩
        rw [HE.out]
        go_wp2_with fail
        refine (in_after y (place_rs A l c r.id _ HM.out (HR.out.keep (etr (eal (eal (Ext.refl w) (.cells #[.string L.name, .slice L.aS L.secs.length L.cS, .slice L.aE L.els.length L.cE, .slice L.aJ L.jts.length L.cJ, .slice L.aG L.sgs.length L.cG, .slice L.aB L.bals.length L.cB] 28)) (.cells #[.int .i64 r.id, .int .i64 r.el, .int .i64 r.from_, .int .i64 r.to_, .int .i64 r.speed, .bool r.act] 31)) y.is)))).mono ?_
        rintro e w' ⟨y2, rfl, rfl⟩
        rw [HX.out]
        have HB2 := Lib.hid (etr (eal (eal (Ext.refl w) (.cells #[.string L.name, .slice L.aS L.secs.length L.cS, .slice L.aE L.els.length L.cE, .slice L.aJ L.jts.length L.cJ, .slice L.aG L.sgs.length L.cG, .slice L.aB L.bals.length L.cB] 28)) (.cells #[.int .i64 r.id, .int .i64 r.el, .int .i64 r.from_, .int .i64 r.to_, .int .i64 r.speed, .bool r.act] 31)) y2.is)
        have z2 : w.heap.size + 1 < y2.val.heap.size := by have := y2.is.size; simp at this; omega
        have OW : Hid (Own (y2.val.setCell ⟨w.heap.size + 1, 5, none⟩ (.bool false)) (w.heap.size + 1) (Rsc (offR r))) :=
          ((Own.new (w := w.alloc (.cells #[.string L.name, .slice L.aS L.secs.length L.cS, .slice L.aE L.els.length L.cE, .slice L.aJ L.jts.length L.cJ, .slice L.aG L.sgs.length L.cG, .slice L.aB L.bals.length L.cB] 28)) (cs := #[.int .i64 r.id, .int .i64 r.el, .int .i64 r.from_, .int .i64 r.to_, .int .i64 r.speed, .bool r.act]) (t := 31) (by simp)).keep y2.is).set 5 (by simp) (.bool false)
        have HB3 : Hid (Ext w (y2.val.setCell ⟨w.heap.size + 1, 5, none⟩ (.bool false))) := eset HB2.out (by omega) _ _
        go_wp2_with fail
        go_loopg [9] l.length (fun g i wr => ∃ j : Nat, i = .int .i64 j ∧ j ≤ l.length ∧ g = l.length - j ∧ Hid (Ext (y2.val.setCell ⟨w.heap.size + 1, 5, none⟩ (.bool false)) wr ∧ ∀ (i : Nat) t, i < j → l[i]? = some t → gtR r.id t = false))
        case atStart => exact ⟨0, rfl, by omega, rfl, Ext.refl _, fun i t h => absurd h (by omega)⟩
        case round =>
          obtain ⟨j, rfl, hj, hg, H⟩ := hrel
          have HG := Lib.hid hg
          clear hg
          have CW := (OW.out.keep H.out.1).cells
          have g0 : wr.cell? ⟨w.heap.size + 1, 0, none⟩ = some (.int .i64 r.id) := CW.2 0 _ rfl
          have gz := CW.1
          have HCW := Lib.hid CW
          clear CW
          by_cases hgo : ∃ t, l[j]? = some t ∧ t.id < r.id
          · obtain ⟨t, ht, hlt'⟩ := hgo
            have hlt : j < l.length := (List.getElem?_eq_some_iff.1 ht).1
            obtain ⟨b, off, p, hA, hs, hbs, c0, c1, c2, c3, c4, c5⟩ := rd_rs HR.out (etr HB3.out H.out.1) hlt
            obtain rfl : t = p := by rw [ht] at hs; cases hs; rfl
            have HN : Hid (∀ (i : Nat) u, i < j + 1 → l[i]? = some u → gtR r.id u = false) := fun i u hi hu => by
              by_cases e : i = j
              · subst e; rw [ht] at hu; cases hu; exact decide_eq_false (by omega)
              · exact H.out.2 i u (by omega) hu
            have q1 : decide (t.id < r.id) = true := decide_eq_true hlt'
            have HS := Lib.hid hs
            clear hs ht
            go_wp2
            refine wp_region_after (by kernel_rfl) (by kernel_rfl) ?_
            repeat (first | go_big_quiet_step (fail))
            refine wpQuiet_nil ?_
            rintro _ ⟨x, rfl⟩
            go_wp2
            go_roundg (l.length - (j + 1))
            case measure => have := HG.out; omega
            case rel => exact ⟨j + 1, by go_num, by omega, rfl, etr H.out.1 x.is, HN.out⟩
          · have HPL : Hid (plcR r.id l = j) := plcR_of hj H.out.2 (fun t ht => by
              have h1 : ¬ t.id < r.id := fun h => hgo ⟨t, ht, h⟩
              have h2 := idxR_no HXO.out j t ht
              have h3 : ¬ t.id = r.id := fun e => by unfold hitR at h2; rw [e] at h2; simp at h2
              exact decide_eq_true (by omega))
            have HBr := Lib.hid (etr HB3.out H.out.1)
            have hlay : j < l.length → ∃ b off t, A = some ⟨b, off, none⟩ ∧ b < wr.heap.size ∧ wr.cell? ⟨b, off + j * 6, none⟩ = some (.int .i64 t) ∧ decide (t < r.id) = false := fun hlt => by
              obtain ⟨b, off, p, hA, hs, hbs, c0, c1, c2, c3, c4, c5⟩ := rd_rs HR.out HBr.out hlt
              exact ⟨b, off, p.id, hA, hbs, c0, decide_eq_false fun h => hgo ⟨p, hs, h⟩⟩
            clear hgo
            by_cases hlt : j < l.length
            · obtain ⟨b, off, t, rfl, hbs, c0, q1⟩ := hlay hlt
              have hjc : j ≤ c := by have := HC.out; omega
              clear hlay
              go_wp2
              refine wp_region_after (by kernel_rfl) (by kernel_rfl) ?_
              repeat (first | go_big_quiet_step (fail))
              refine wpQuiet_nil ?_
              rintro _ ⟨x, rfl⟩
              have HBx := Lib.hid (etr HBr.out x.is)
              have HCx := Lib.hid (HCW.out.keep x.is)
              clear c0 g0 gz
              have hs1 := fun w => sl_hi2 (some ⟨b, off, none⟩) l.length c (j : Int) (by omega) (by omega) w
              have hs2 := fun w => sl_lo2 (some ⟨b, off, none⟩) l.length c (j : Int) (by omega) (by omega) w
              go_wp2_with (at_builtin
                           first
                             | (refine wp_appL (u := x.val) Rsc_len Rsc_one Tryd.underlying29 HI.out hz0 hz1 hz2 rfl (by decide) rfl rfl rfl OwnL.nil (Ext.refl _) (l.take j) _ c (by simp [go_sem] <;> omega) (rd_take (HR.out.keep HBx.out) j) (by simp; omega) (by have := HM.out; simp; omega) ?_
                                intro v1 w1 H1
                                have HC1 := HCx.out.keep H1.out.2.1
                                have g0 := HC1.2 0 _ rfl
                                have g1 := HC1.2 1 _ rfl
                                have g2 := HC1.2 2 _ rfl
                                have g3 := HC1.2 3 _ rfl
                                have g4 := HC1.2 4 _ rfl
                                have g5 := HC1.2 5 _ rfl
                                have gz := HC1.1
                                clear HC1)
                             | (refine wp_appE (u := x.val) Rsc_len Rsc_one Tryd.underlying29 HI.out hz0 hz1 hz2 rfl (by decide) rfl rfl rfl (H1.out.1.keep (eal (Ext.refl _) _)) (eal H1.out.2.1 _) (offR r) w1.heap.size (by simp [go_sem]) (by exact CellsAt.new rfl) (by simp; omega) (by simp; unfold maxLen; omega) ?_
                                intro v2 w2 H2)
                             | (refine wp_appL (u := x.val) Rsc_len Rsc_one Tryd.underlying29 HI.out hz0 hz1 hz2 rfl (by decide) rfl rfl rfl H2.out.1 H2.out.2.1 (l.drop j) _ (c - j) (by simp [go_sem] <;> omega) (rd_dropA (HR.out.keep (etr HBx.out H2.out.2.1)) HC.out j) (by simp; omega) (by simp; unfold maxLen; omega) ?_
                                intro v3 w3 H3))
              go_ret2
              exact ⟨_, ret_vi E1.out.symm, by rw [E2.out, HPL.out]; simpa using H3.out.1.mono (esz HBx.out), etr HBx.out H3.out.2.1⟩
            · have hjl : j = l.length := by omega
              have q1 : decide ((j : Int) < (l.length : Int)) = false := decide_eq_false (by omega)
              have q2 : decide (j < l.length) = false := decide_eq_false (by omega)
              have hjc : j ≤ c := by have := HC.out; omega
              clear hlay hjl
              go_wp2
              refine wp_region_after (by kernel_rfl) (by kernel_rfl) ?_
              repeat (first | go_big_quiet_step (fail))
              refine wpQuiet_nil ?_
              rintro _ ⟨x, rfl⟩
              have HBx := Lib.hid (etr HBr.out x.is)
              have HCx := Lib.hid (HCW.out.keep x.is)
              clear g0 gz
              have hs1 := fun w => sl_hi2 A l.length c (j : Int) (by omega) (by omega) w
              have hs2 := fun w => sl_lo2 A l.length c (j : Int) (by omega) (by omega) w
              go_wp2_with (at_builtin
                           first
                             | (refine wp_appL (u := x.val) Rsc_len Rsc_one Tryd.underlying29 HI.out hz0 hz1 hz2 rfl (by decide) rfl rfl rfl OwnL.nil (Ext.refl _) (l.take j) _ c (by simp [go_sem] <;> omega) (rd_take (HR.out.keep HBx.out) j) (by simp; omega) (by have := HM.out; simp; omega) ?_
                                intro v1 w1 H1
                                have HC1 := HCx.out.keep H1.out.2.1
                                have g0 := HC1.2 0 _ rfl
                                have g1 := HC1.2 1 _ rfl
                                have g2 := HC1.2 2 _ rfl
                                have g3 := HC1.2 3 _ rfl
                                have g4 := HC1.2 4 _ rfl
                                have g5 := HC1.2 5 _ rfl
                                have gz := HC1.1
                                clear HC1)
                             | (refine wp_appE (u := x.val) Rsc_len Rsc_one Tryd.underlying29 HI.out hz0 hz1 hz2 rfl (by decide) rfl rfl rfl (H1.out.1.keep (eal (Ext.refl _) _)) (eal H1.out.2.1 _) (offR r) w1.heap.size (by simp [go_sem]) (by exact CellsAt.new rfl) (by simp; omega) (by simp; unfold maxLen; omega) ?_
                                intro v2 w2 H2)
                             | (refine wp_appL (u := x.val) Rsc_len Rsc_one Tryd.underlying29 HI.out hz0 hz1 hz2 rfl (by decide) rfl rfl rfl H2.out.1 H2.out.2.1 (l.drop j) _ (c - j) (by simp [go_sem] <;> omega) (rd_dropA (HR.out.keep (etr HBx.out H2.out.2.1)) HC.out j) (by simp; omega) (by simp; unfold maxLen; omega) ?_
                                intro v3 w3 H3))
              go_ret2
              exact ⟨_, ret_vi E1.out.symm, by rw [E2.out, HPL.out]; simpa using H3.out.1.mono (esz HBx.out), etr HBx.out H3.out.2.1⟩
  · obtain ⟨e1, e2⟩ := @put_bad L.els l r ho
    have E1 := Lib.hid e1
    have E2 := Lib.hid e2
    have HE : Hid (chkE L.els r = 1) := if_neg ho
    clear e1 e2 ho
    go_enter Tryd.func11, Tryd.ntmps11
    go_wp2_with fail
    refine (to_after (rchk_any L r _ (HL.out.keep (eal (eal (Ext.refl w) (.cells #[.string L.name, .slice L.aS L.secs.length L.cS, .slice L.aE L.els.length L.cE, .slice L.aJ L.jts.length L.cJ, .slice L.aG L.sgs.length L.cG, .slice L.aB L.bals.length L.cB] 28)) (.cells #[.int .i64 r.id, .int .i64 r.el, .int .i64 r.from_, .int .i64 r.to_, .int .i64 r.speed, .bool r.act] 31))))).mono ?_
    rintro e w' ⟨y, rfl, rfl⟩
    rw [HE.out]
    go_wp2_with fail
    go_ret2
    exact ⟨_, ret_vi E1.out.symm, by rw [E2.out]; exact OwnL.nil, etr (eal (eal (Ext.refl w) (.cells #[.string L.name, .slice L.aS L.secs.length L.cS, .slice L.aE L.els.length L.cE, .slice L.aJ L.jts.length L.cJ, .slice L.aG L.sgs.length L.cG, .slice L.aB L.bals.length L.cB] 28)) (.cells #[.int .i64 r.id, .int .i64 r.el, .int .i64 r.from_, .int .i64 r.to_, .int .i64 r.speed, .bool r.act] 31)) y.is⟩
end Go.Proofs.YtacnfchoemndeaaDoor
