/- Walk of signallingref09.Valid. -/
import Derived.Test.YtacnfchoemndeaaDoorWLayE
import Derived.Test.YtacnfchoemndeaaDoorMonoB
set_option linter.unusedVariables false
set_option linter.unusedSimpArgs false
set_option maxRecDepth 100000
namespace Go.Proofs.YtacnfchoemndeaaDoor
open Go.ChangeShapes Go.WideShapes Go.ChangeAt Go.RowKit
open Sg

theorem set2 {w : World} {b : Nat} {us : List Value} (v0 v1 : Value) (h : Own w b us) (h2 : us.length = 2) : ∃ w', w' = ((w.setCell ⟨b, 0, none⟩ v0).setCell ⟨b, 1, none⟩ v1) ∧ Own w' b [v0, v1] ∧ Only b w w' := by
  refine ⟨_, rfl, ?_, (Only.set _ _ _ _).trans (Only.set _ _ _ _)⟩
  match us, h2 with
  | [u0, u1], _ => exact (h.set 0 (by simp) v0).set 1 (by simp) v1
theorem rd_st_at {w wr : World} {b off k : Nat} {p : List Stp} {s : Stp} (h : Rd w (some ⟨b, off, none⟩) 3 Stc p) (hb : Ext w wr) (hs : p[k]? = some s) : b < wr.heap.size ∧ wr.cell? ⟨b, off + k * 3, none⟩ = some (.int .i64 s.el) ∧ wr.cell? ⟨b, off + k * 3 + 1, none⟩ = some (.int .i64 s.in_) ∧ wr.cell? ⟨b, off + k * 3 + 1 + 1, none⟩ = some (.int .i64 s.out_) := by
  obtain ⟨b', off', s', e, hs', h0, h1, h2, h3⟩ := rd_st h hb (List.getElem?_eq_some_iff.1 hs).1
  cases e
  rw [hs] at hs'
  cases hs'
  exact ⟨h0, h1, h2, h3⟩
set_option maxHeartbeats 16000000 in
theorem rvalid_way (L : Lay) (A : Option Addr) (way : List Stp) (c : Nat) (w : World) (hL : LayOk w L) (hm : way.length ≤ maxLen) (hr : Rd w A 3 Stc way) : Calls Tryd.prog 22 #[.agg #[.string L.name, .slice L.aS L.secs.length L.cS, .slice L.aE L.els.length L.cE, .slice L.aJ L.jts.length L.cJ, .slice L.aG L.sgs.length L.cG, .slice L.aB L.bals.length L.cB], .slice A way.length c] w fun e w' => e = .returned (.bool (wayB L.els L.jts way)) ∧ Below w.heap.size w w' := by
  unfold maxLen at hm
  have HL := Lib.hid hL
  have HR := Lib.hid hr
  clear hL hr
  by_cases k0 : way.length = 0
  · have HV : Hid (wayB L.els L.jts way = false) := wayB_false.2 (fun h => by have := h.1; omega)
    go_enter Tryd.func22, Tryd.ntmps22
    go_wp2
    go_ret
    exact ⟨ret_bool HV.out.symm, eal (Ext.refl _) _⟩
  by_cases k1 : 64 < way.length
  · have HV : Hid (wayB L.els L.jts way = false) := wayB_false.2 (fun h => by have := h.2.1; omega)
    go_enter Tryd.func22, Tryd.ntmps22
    go_wp2
    go_ret
    exact ⟨ret_bool HV.out.symm, eal (Ext.refl _) _⟩
  have HK0 := Lib.hid k0
  have HK1 := Lib.hid k1
  have q0 : ((way.length : Int) == 0) = false := by simpa using k0
  have q64 : decide ((64 : Int) < (way.length : Int)) = false := decide_eq_false (by omega)
  go_enter Tryd.func22, Tryd.ntmps22
  go_wp2
  clear k0 k1
  go_loopg [5] way.length (fun g ix wr => ∃ k : Nat, ix = .int .i64 k ∧ k ≤ way.length ∧ g = way.length - k ∧ Hid (Ext w wr ∧ LayAt wr w.heap.size L ∧ WayTo L.els L.jts way k))
  case atStart =>
    exact ⟨0, rfl, by omega, by omega, eal (Ext.refl _) _, CellsAt.new rfl, fun i s hi => absurd hi (by omega)⟩
  case round =>
    obtain ⟨k, rfl, hk, hg, H⟩ := hrel
    have HG := Lib.hid hg
    clear hg
    by_cases hlt : k < way.length
    · obtain ⟨b, off, s, rfl, hs, hbs, c0, c1, c2⟩ := rd_st HR.out H.out.1 hlt
      have HS := Lib.hid hs
      clear hs
      obtain ⟨l0, a0, a1, a2, a3, a4, a5⟩ := layAt_cells H.out.2.1
      cases hp : possB L.els s
      · have HV : Hid (wayB L.els L.jts way = false) := way_no HS.out fun h _ _ => by rw [possB_true.2 h] at hp; cases hp
        have HP := Lib.hid hp
        clear hp
        go_wp2
        refine wp_region_after (by kernel_rfl) (by kernel_rfl) ?_
        repeat (first | go_big_quiet_step ((go_at_call 41; exact after_call _ (HP.out ▸ rposs_any L s _ (HL.out.keep (etr H.out.1 (After.is _)))))))
        refine wpQuiet_nil ?_
        rintro _ ⟨y, rfl⟩
        go_wp2
        go_ret
        exact ⟨ret_bool HV.out.symm, etr H.out.1 y.is⟩
      · have HO : Hid (StepOk L.els s) := possB_true.1 hp
        have HP := Lib.hid hp
        clear hp
        go_wp2
        refine wp_region_after (by kernel_rfl) (by kernel_rfl) ?_
        repeat (first | go_big_quiet_step ((go_at_call 41; exact after_call _ (HP.out ▸ rposs_any L s _ (HL.out.keep (etr H.out.1 (After.is _)))))))
        refine wpQuiet_nil ?_
        rintro _ ⟨y, rfl⟩
        have E2 : Hid (Ext w y.val) := etr H.out.1 y.is
        have L0 : Hid (LayAt y.val w.heap.size L) := H.out.2.1.keep y.is
        clear a0 a1 a2 a3 a4 a5 c0 c1 c2 l0 hbs
        by_cases hk0 : k = 0
        · have HP3 : Hid (∀ t, 0 < k → way[k - 1]? = some t → PairOk L.jts t s) := fun t h => absurd h (by omega)
          obtain ⟨y2, hy2⟩ : ∃ y2 : After wr, y2 = y := ⟨_, rfl⟩
          rw [← hy2]
          have E6 : Hid (Ext w y2.val) := hy2 ▸ E2
          have L6 : Hid (LayAt y2.val w.heap.size L) := hy2 ▸ L0
          clear hy2
          have hk0' : decide ((0 : Int) < k) = false := by simp; omega
          have hk0n : decide (0 < k) = false := by simp; omega
          go_wp2
          go_loopg [10] k (fun g ix wr2 => ∃ j : Nat, ix = .int .i64 j ∧ j ≤ k ∧ g = k - j ∧ Hid (Ext y2.val wr2 ∧ ∀ (i : Nat) t, i < j → way[i]? = some t → t.el ≠ s.el))
          case atStart => exact ⟨0, rfl, by omega, by omega, Ext.refl _, fun i t h => absurd h (by omega)⟩
          case round =>
            obtain ⟨j, rfl, hj, hg2, H2⟩ := hrel
            have HG2 := Lib.hid hg2
            clear hg2
            have E7 : Hid (Ext w wr) := etr E6.out H2.out.1
            by_cases hlt2 : j < k
            · exact absurd hlt2 (by omega)
            · have HN : Hid (∀ (i : Nat) t, i < k → way[i]? = some t → t.el ≠ s.el) := fun i v hi hv => H2.out.2 i v (by omega) hv
              have HW : Hid (WayTo L.els L.jts way (k + 1)) := wayTo_succ H.out.2.2 HS.out HO.out HN.out HP3.out
              go_wp2
              go_roundg (way.length - (k + 1))
              case measure => have := HG.out; omega
              case rel => exact ⟨k + 1, by go_num, by omega, rfl, E7.out, L6.out.keep H2.out.1, HW.out⟩
        · obtain ⟨t, ht⟩ : ∃ t, way[k - 1]? = some t := ⟨_, List.getElem?_eq_getElem (by omega)⟩
          obtain ⟨hb2, d0, d1, d2⟩ := rd_st_at HR.out E2.out ht
          have HTK := Lib.hid ht
          clear ht
          have hk0n : 0 < k := by omega
          have hkp : (0 : Int) < k := by omega
          have n1 : IntKind.i64.wrap ((k : Int) - 1) = (k : Int) - 1 := IntWalk.i64_in _ (by omega)
          have n2 : ((k : Int) - 1).toNat = k - 1 := by omega
          have n3 : (0 : Int) ≤ (k : Int) - 1 := by omega
          have n4 : (k : Int) - 1 < (way.length : Int) := by omega
          have n5 : (1 : Int) ≤ (k : Int) := by omega
          have n6 : 1 ≤ k := by omega
          have n7 : k - 1 < way.length := by omega
          obtain ⟨l0, a0, a1, a2, a3, a4, a5⟩ := layAt_cells L0.out
          go_wp2
          refine wp_region_monoB [0, 1, 2, 3, 4, 5, 6, 7, 8, 9] 3 (by kernel_rfl) (by kernel_rfl) (fun _ _ d _ _ h => by cases d <;> exact h) (by kernel_rfl) (by kernel_rfl) ?_
          repeat (refine wpE_step rfl (fun K hK => ?_); go_simp; (first
            | (refine hK _ ?_; clear hK K)
            | (apply Exists.intro
               refine ⟨fun x => ?_, hK _ ?_⟩
               (go_at_call 42; exact rnext_any L t _ (HL.out.keep (etr E2.out x.is)))
               clear hK K)))
          refine wpE_nil ?_
          intro x
          refine wpAnyB_ready (rs := [10]) (by kernel_rfl) (by simp) (AllB.cons rfl (fun K hK => ?_) AllB.nil)
          go_simp
          refine hK _ _ (ext_below (eal (Ext.refl _) _) (esz x.is)) (fun z => ?_)
          clear hK K
          have hz : x.val.heap.size < z.val.heap.size := by have := z.is.size; simp at this; omega
          refine wpAnyB_ready (rs := [11]) (by kernel_rfl) (by simp) (AllB.cons rfl (fun K hK => ?_) AllB.nil)
          go_simp
          obtain ⟨w4, hw4, HO4, HN4⟩ := set2 (.int .i64 (joinV L.jts (nextE t)).el) (.int .i64 (joinV L.jts (nextE t)).side) ((Own.new (w := x.val) (cs := #[.int .i64 0, .int .i64 0]) (t := 77) rfl).keep z.is) rfl
          rw [← hw4]
          refine hK _ _ (Below.only (Below.refl _ _) HN4 (esz x.is)) (fun z2 => ?_)
          clear hK K
          refine wpAnyB_ready (rs := [12]) (by kernel_rfl) (by simp) (AllB.cons rfl (fun K hK => ?_) AllB.nil)
          go_simp
          refine hK _ _ (Below.refl _ _) (fun z3 => ?_)
          clear hK K
          refine wpAnyB_done (by kernel_rfl) ?_ _
          clear a0 a1 a2 a3 a4 a5 d0 d1 d2 l0 hb2 n1 n2 n3 n4 n5 n6 n7
          have HO5 := (HO4.keep z2.is).keep z3.is
          obtain ⟨w5, hw5⟩ : ∃ w5, w5 = z3.val := ⟨_, rfl⟩
          have E5 : Hid (Ext w w5) := hw5 ▸ etr (etr (eonly (etr (eal (etr E2.out x.is) _) z.is) HN4 (esz (etr E2.out x.is))) z2.is) z3.is
          have L5 : Hid (LayAt w5 w.heap.size L) := hw5 ▸ L0.out.keep (etr (etr (eonly (etr (eal x.is _) z.is) HN4 (esz x.is)) z2.is) z3.is)
          rw [← hw5] at HO5 ⊢
          obtain ⟨hb5, c0, c1, c2⟩ := rd_st_at HR.out E5.out HS.out
          have e0 := HO5.2.1 0 _ rfl
          have e1 := HO5.2.1 1 _ rfl
          have e2 := HO5.1
          clear hw5 hw4 HO5 HN4 HO4 hz
          go_wp2
          cases jb : joinB L.jts (nextE t)
          · have HV : Hid (wayB L.els L.jts way = false) := way_no HS.out fun _ _ h => by have := (h t hk0n HTK.out).1; rw [show (⟨t.el, t.out_⟩ : Sg.End) = nextE t from rfl, jb] at this; cases this
            clear jb
            refine wp_region_after (by kernel_rfl) (by kernel_rfl) ?_
            repeat (first | go_big_quiet_step (fail))
            refine wpQuiet_nil ?_
            rintro _ ⟨y2, rfl⟩
            go_wp2
            go_ret
            exact ⟨ret_bool HV.out.symm, etr E5.out y2.is⟩
          by_cases hj1 : (joinV L.jts (nextE t)).el = s.el
          · have q1 : ((joinV L.jts (nextE t)).el != s.el) = false := by simp [hj1]
            by_cases hj2 : (joinV L.jts (nextE t)).side = s.in_
            · have q2 : ((joinV L.jts (nextE t)).side != s.in_) = false := by simp [hj2]
              have HP3 : Hid (∀ u, 0 < k → way[k - 1]? = some u → PairOk L.jts u s) := fun u _ hu => by rw [HTK.out] at hu; cases hu; exact ⟨jb, hj1, hj2⟩
              clear hj1 hj2 jb
              refine wp_region_after (by kernel_rfl) (by kernel_rfl) ?_
              repeat (first | go_big_quiet_step (fail))
              refine wpQuiet_nil ?_
              rintro _ ⟨y2, rfl⟩
              have E6 : Hid (Ext w y2.val) := etr E5.out y2.is
              have L6 : Hid (LayAt y2.val w.heap.size L) := L5.out.keep y2.is
              clear e0 e1 e2 c0 c1 c2 q1 q2 hb5
              go_wp2
              go_loopg [10] k (fun g ix wr2 => ∃ j : Nat, ix = .int .i64 j ∧ j ≤ k ∧ g = k - j ∧ Hid (Ext y2.val wr2 ∧ ∀ (i : Nat) t, i < j → way[i]? = some t → t.el ≠ s.el))
              case atStart => exact ⟨0, rfl, by omega, by omega, Ext.refl _, fun i t h => absurd h (by omega)⟩
              case round =>
                obtain ⟨j, rfl, hj, hg2, H2⟩ := hrel
                have HG2 := Lib.hid hg2
                clear hg2
                have E7 : Hid (Ext w wr) := etr E6.out H2.out.1
                by_cases hlt2 : j < k
                · obtain ⟨u, hu⟩ : ∃ u, way[j]? = some u := ⟨_, List.getElem?_eq_getElem (by omega)⟩
                  obtain ⟨hb6, f0, f1, f2⟩ := rd_st_at HR.out E7.out HS.out
                  obtain ⟨_, g0, g1, g2⟩ := rd_st_at HR.out E7.out hu
                  have HU := Lib.hid hu
                  clear hu
                  by_cases he : u.el = s.el
                  · have HV : Hid (wayB L.els L.jts way = false) := way_no HS.out fun _ h _ => h j u hlt2 HU.out he
                    have q : (u.el == s.el) = true := by simp [he]
                    clear he
                    go_wp2
                    refine wp_region_after (by kernel_rfl) (by kernel_rfl) ?_
                    repeat (first | go_big_quiet_step (fail))
                    refine wpQuiet_nil ?_
                    rintro _ ⟨y3, rfl⟩
                    go_wp2
                    go_ret
                    exact ⟨ret_bool HV.out.symm, etr E7.out y3.is⟩
                  · have HN : Hid (∀ (i : Nat) t, i < j + 1 → way[i]? = some t → t.el ≠ s.el) := fun i v hi hv => by
                      by_cases e : i = j
                      · subst e; rw [HU.out] at hv; cases hv; exact he
                      · exact H2.out.2 i v (by omega) hv
                    have q : (u.el == s.el) = false := by simpa using he
                    clear he
                    go_wp2
                    refine wp_region_after (by kernel_rfl) (by kernel_rfl) ?_
                    repeat (first | go_big_quiet_step (fail))
                    refine wpQuiet_nil ?_
                    rintro _ ⟨y3, rfl⟩
                    go_wp2
                    go_roundg (k - (j + 1))
                    case measure => have := HG2.out; omega
                    case rel => exact ⟨j + 1, by go_num, by omega, rfl, etr H2.out.1 y3.is, HN.out⟩
                · have HN : Hid (∀ (i : Nat) t, i < k → way[i]? = some t → t.el ≠ s.el) := fun i v hi hv => H2.out.2 i v (by omega) hv
                  have HW : Hid (WayTo L.els L.jts way (k + 1)) := wayTo_succ H.out.2.2 HS.out HO.out HN.out HP3.out
                  go_wp2
                  go_roundg (way.length - (k + 1))
                  case measure => have := HG.out; omega
                  case rel => exact ⟨k + 1, by go_num, by omega, rfl, E7.out, L6.out.keep H2.out.1, HW.out⟩
            · have HV : Hid (wayB L.els L.jts way = false) := way_no HS.out fun _ _ h => hj2 (h t hk0n HTK.out).2.2
              have q2 : ((joinV L.jts (nextE t)).side != s.in_) = true := by simpa using hj2
              clear jb hj1 hj2
              refine wp_region_after (by kernel_rfl) (by kernel_rfl) ?_
              repeat (first | go_big_quiet_step (fail))
              refine wpQuiet_nil ?_
              rintro _ ⟨y2, rfl⟩
              go_wp2
              go_ret
              exact ⟨ret_bool HV.out.symm, etr E5.out y2.is⟩
          · have HV : Hid (wayB L.els L.jts way = false) := way_no HS.out fun _ _ h => hj1 (h t hk0n HTK.out).2.1
            have q1 : ((joinV L.jts (nextE t)).el != s.el) = true := by simpa using hj1
            clear jb hj1
            refine wp_region_after (by kernel_rfl) (by kernel_rfl) ?_
            repeat (first | go_big_quiet_step (fail))
            refine wpQuiet_nil ?_
            rintro _ ⟨y2, rfl⟩
            go_wp2
            go_ret
            exact ⟨ret_bool HV.out.symm, etr E5.out y2.is⟩
    · have e : k = way.length := by omega
      subst e
      have HV : Hid (wayB L.els L.jts way = true) := wayB_true.2 ⟨by have := HK0.out; omega, by have := HK1.out; omega, H.out.2.2⟩
      go_wp2
      go_ret
      exact ⟨ret_bool HV.out.symm, H.out.1⟩
end Go.Proofs.YtacnfchoemndeaaDoor
