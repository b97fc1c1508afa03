/- Walks of chapter 10's laws: ProfileLowers. -/
import Derived.Test.YtoodehilgogomaaWLawB
import Derived.Test.YtoodehilgogomaaWProfI
set_option linter.unusedVariables false
set_option linter.unusedSimpArgs false
namespace Go.Proofs.Ytoodehilgogomaa
open Go.ChangeShapes Go.WideShapes Go.ChangeAt Go.RowKit
open Sg

theorem at_is (A : Option Addr) (p : List Sgm) (cap : Nat) (x : Int) (s : Sgm) (w : World) (hm : p.length ≤ maxLen) (hr : Rd w A 4 Sgc p) (h : atO p x = some s) : Calls Try.prog 9 #[.slice A p.length cap, .int .i64 x] w fun e w' => e = .returned (.tuple #[.agg #[.int .i64 s.from_, .int .i64 s.to_, .int .i64 s.grade, .int .i64 s.speed], .bool true]) ∧ Below w.heap.size w w' := by
  have := at_any A p cap x w hm hr
  rw [show atS p x = s by rw [atS, h]; rfl, show atB p x = true by rw [atB, h]; rfl] at this
  exact this
theorem at_no (A : Option Addr) (p : List Sgm) (cap : Nat) (x : Int) (w : World) (hm : p.length ≤ maxLen) (hr : Rd w A 4 Sgc p) (h : atO p x = none) : Calls Try.prog 9 #[.slice A p.length cap, .int .i64 x] w fun e w' => e = .returned (.tuple #[.agg #[.int .i64 0, .int .i64 0, .int .i64 0, .int .i64 0], .bool false]) ∧ Below w.heap.size w w' := by
  have := at_any A p cap x w hm hr
  rw [show atS p x = Sgm.z by rw [atS, h]; rfl, show atB p x = false by rw [atB, h]; rfl] at this
  exact this
/-- What the law asks of a profile and of the one that Limit makes of it. -/
theorem low_facts {p : List Sgm} {f t v : Int} (hv : validB p = true) (hl : p.length ≤ 100) (hv1 : 1 ≤ v) : limL p f t v = limF f t v p ∧ validB (limF f t v p) = true ∧ (limF f t v p).length ≤ 128 ∧ limL (limF f t v p) f t v = limF f t v p ∧
    ∀ y, (atO p y = none ∧ atO (limF f t v p) y = none) ∨ ∃ s u, atO p y = some s ∧ atO (limF f t v p) y = some u ∧ lowP f t v y s u := by
  obtain ⟨b, hc⟩ := ch_of (validB_true.1 hv)
  have hlen := limF_len (f := f) (t := t) (v := v) hc
  have hl2 : (limF f t v p).length ≤ 128 := by split at hlen <;> split at hlen <;> omega
  have hc2 := limF_ch (f := f) (t := t) hv1 hc
  have hv2 : validB (limF f t v p) = true := validB_true.2 (valid_of hc2 hl2)
  have hlt : ∀ s ∈ p, s.from_ < s.to_ := fun s hs => (hc.ok s hs).2.1
  refine ⟨by rw [limL, if_pos ⟨hv, hv1⟩, if_pos hl2], hv2, hl2, ?_, fun y => ?_⟩
  · rw [limL, if_pos ⟨hv2, hv1⟩, limF_idem hlt, if_pos hl2]
  · unfold atO
    rw [if_pos hv, if_pos hv2]
    exact limF_at hlt
set_option maxRecDepth 100000 in
set_option maxHeartbeats 16000000 in
theorem lowers_walk (A : Option Addr) (p : List Sgm) (cap : Nat) (f t v : Int) (w : World) (hm : p.length ≤ maxLen) (hr : Rd w A 4 Sgc p) :
    Calls Try.prog 5 #[.slice A p.length cap, .agg #[.int .i64 f, .int .i64 t, .int .i64 v]] w fun e w' => e = .returned (.bool true) ∧ Below w.heap.size w w' := by
  have HM := Lib.hid hm
  have HR := Lib.hid hr
  unfold maxLen at hm
  clear hr
  by_cases hall : p.length ≤ 100 ∧ validB p = true ∧ 0 < p.length ∧ 1 ≤ v
  · obtain ⟨hl, hv, h0, hv1⟩ := hall
    obtain ⟨F1, F2, F3, F4, F5⟩ := low_facts (f := f) (t := t) hv hl hv1
    obtain ⟨q, hq⟩ : ∃ q, q = limF f t v p := ⟨_, rfl⟩
    rw [← hq] at F1 F2 F3 F4 F5
    have HF1 := Lib.hid F1
    have HF3 : Hid (q.length ≤ maxLen) := by show _ ≤ _; unfold maxLen; omega
    have HF4 := Lib.hid F4
    have HF5 := Lib.hid F5
    have HVP := Lib.hid hv
    clear hq F1 F2 F4 F5 hv
    have d1 : decide (100 < p.length) = false := by simpa using hl
    have d2 : ((p.length : Int) == 0) = false := by rw [beq_eq_false_iff_ne]; omega
    have d3 : decide (v < 1) = false := by simpa using hv1
    have HV5 : Hid (sameL q q = true) := sameL_true.2 rfl
    go_enter Try.func5, Try.ntmps5
    go_wp2_with fail
    refine (to_after (valid_any A p cap _ HM.out (HR.out.keep (eal (Ext.refl w) _)))).mono ?_
    rintro e w' ⟨y0, rfl, rfl⟩
    rw [HVP.out]
    go_wp2_with fail
    have HB0 := Lib.hid (etr (eal (Ext.refl w) _) y0.is)
    refine (limit_any A p cap f t v _ (by omega) (HR.out.keep HB0.out)).mono ?_
    rintro e w1 ⟨u1, rfl, ho1, hb1⟩
    rw [HF1.out] at ho1
    obtain ⟨A1, cap1, rfl, hr1, hm1⟩ := ho1.rd Sgc_len
    have HR1 := Lib.hid hr1
    have HB1 := Lib.hid (etr HB0.out hb1)
    have HC1 := Lib.hid (((CellsAt.new (w := w) (cs := #[.int .i64 f, .int .i64 t, .int .i64 v]) (t := 34) rfl).keep y0.is).keep hb1)
    clear ho1 hr1 hb1 hm1
    go_wp2
    go_loopg [44] p.length (fun g i wr => ∃ k : Nat, i = .int .i64 k ∧ k ≤ p.length ∧ g = p.length - k ∧ Hid (Ext w1 wr))
    case atStart => exact ⟨0, rfl, by omega, rfl, Ext.refl _⟩
    case round =>
      obtain ⟨k, rfl, hk, hg, H⟩ := hrel
      have HG := Lib.hid hg
      clear hg
      have CB := HC1.out.keep H.out
      have z0 := CB.1
      have z1 : w.heap.size < wr.heap.size + 1 := by omega
      have b0 := CB.2 0 _ rfl
      have b1 := CB.2 1 _ rfl
      have b2 := CB.2 2 _ rfl
      clear CB
      by_cases hlt : k < p.length
      · obtain ⟨b, off, s, rfl, hs, hbs, c0, c1, c2, c3⟩ := rd_seg HR.out (etr HB1.out H.out) hlt
        have hso := segOk_of HVP.out hs
        have s1 : -9223372036854775808 ≤ s.to_ - 1 := by obtain ⟨_, _, _, _⟩ := hso; omega
        clear hs hso
        go_wp2
        go_loopg [65] 6 (fun g i wj => ∃ j : Nat, i = .int .i64 j ∧ j ≤ 6 ∧ g = 6 - j ∧ Hid (Ext w1 wj ∧ ∃ L6 : List Int, L6.length = 6 ∧ CellsAt wj (wr.heap.size + 1) (L6.map (Value.int .i64))))
        case atStart => exact ⟨0, rfl, by omega, rfl, eal (eal H.out _) _, [_, _, _, _, _, _], rfl, CellsAt.new (by simp)⟩
        case round =>
          obtain ⟨j, rfl, hj, hg2, H2⟩ := hrel
          have HG2 := Lib.hid hg2
          clear hg2 b0 b1 b2 z0 z1 c0 c1 c2 c3
          by_cases hlt2 : j < 6
          · obtain ⟨L6, hl6, hc6⟩ := H2.out.2
            obtain ⟨yv, hyv⟩ : ∃ y, L6[j]? = some y := ⟨_, List.getElem?_eq_getElem (by omega)⟩
            have cy := hc6.2 j (.int .i64 yv) (by simp [hyv])
            have zy := hc6.1
            have CB := HC1.out.keep H2.out.1
            have z0 := CB.1
            have b0 := CB.2 0 _ rfl
            have b1 := CB.2 1 _ rfl
            have b2 := CB.2 2 _ rfl
            have HC6 := Lib.hid hc6
            have HL6 := Lib.hid hl6
            clear CB hyv hc6 hl6
            have HRp := Lib.hid (HR.out.keep (etr HB1.out H2.out.1))
            have HRq := Lib.hid (HR1.out.keep H2.out.1)
            rcases HF5.out yv with ⟨k1, k2⟩ | ⟨s1, u1, k1, k2, k3, k4⟩
            · have K1 := Lib.hid k1
              have K2 := Lib.hid k2
              have hv0 : (0 : Int) ≤ v := by omega
              clear k1 k2
              by_cases e1 : f ≤ yv
              · by_cases e2 : yv < t
                · go_wp2_with fail
                  refine (to_after (at_no _ p cap yv wr HM.out HRp.out K1.out)).mono ?_
                  rintro e w' ⟨y1, rfl, rfl⟩
                  have za : w.heap.size < y1.val.heap.size := by have := y1.is.size; omega
                  have zd : w.heap.size < y1.val.heap.size + 1 := by omega
                  go_wp2_with fail
                  refine (to_after (at_no A1 q cap1 yv _ HF3.out ((HRq.out.keep y1.is).keep (eal (Ext.refl _) _)) K2.out)).mono ?_
                  rintro e w' ⟨y2, rfl, rfl⟩
                  have zb : y1.val.heap.size < y2.val.heap.size := by have := y2.is.size; simp at this; omega
                  have zc : w.heap.size < y2.val.heap.size := by omega
                  go_wp2
                  go_roundg (6 - (j + 1))
                  case measure => have := HG2.out; omega
                  case rel => exact ⟨j + 1, by go_num, by omega, rfl, eal (etr (eal (etr H2.out.1 y1.is) _) y2.is) _, L6, HL6.out, ((((HC6.out.low y1.is).alloc _).low y2.is).alloc _)⟩
                · have e2' : decide (yv < t) = false := by simpa using e2
                  go_wp2_with fail
                  refine (to_after (at_no _ p cap yv wr HM.out HRp.out K1.out)).mono ?_
                  rintro e w' ⟨y1, rfl, rfl⟩
                  have za : w.heap.size < y1.val.heap.size := by have := y1.is.size; omega
                  have zd : w.heap.size < y1.val.heap.size + 1 := by omega
                  go_wp2_with fail
                  refine (to_after (at_no A1 q cap1 yv _ HF3.out ((HRq.out.keep y1.is).keep (eal (Ext.refl _) _)) K2.out)).mono ?_
                  rintro e w' ⟨y2, rfl, rfl⟩
                  have zb : y1.val.heap.size < y2.val.heap.size := by have := y2.is.size; simp at this; omega
                  have zc : w.heap.size < y2.val.heap.size := by omega
                  go_wp2
                  go_roundg (6 - (j + 1))
                  case measure => have := HG2.out; omega
                  case rel => exact ⟨j + 1, by go_num, by omega, rfl, eal (etr (eal (etr H2.out.1 y1.is) _) y2.is) _, L6, HL6.out, ((((HC6.out.low y1.is).alloc _).low y2.is).alloc _)⟩
              · have e1' : decide (f ≤ yv) = false := by simpa using e1
                go_wp2_with fail
                refine (to_after (at_no _ p cap yv wr HM.out HRp.out K1.out)).mono ?_
                rintro e w' ⟨y1, rfl, rfl⟩
                have za : w.heap.size < y1.val.heap.size := by have := y1.is.size; omega
                have zd : w.heap.size < y1.val.heap.size + 1 := by omega
                go_wp2_with fail
                refine (to_after (at_no A1 q cap1 yv _ HF3.out ((HRq.out.keep y1.is).keep (eal (Ext.refl _) _)) K2.out)).mono ?_
                rintro e w' ⟨y2, rfl, rfl⟩
                have zb : y1.val.heap.size < y2.val.heap.size := by have := y2.is.size; simp at this; omega
                have zc : w.heap.size < y2.val.heap.size := by omega
                go_wp2
                go_roundg (6 - (j + 1))
                case measure => have := HG2.out; omega
                case rel => exact ⟨j + 1, by go_num, by omega, rfl, eal (etr (eal (etr H2.out.1 y1.is) _) y2.is) _, L6, HL6.out, ((((HC6.out.low y1.is).alloc _).low y2.is).alloc _)⟩
            · have K1 := Lib.hid k1
              have K2 := Lib.hid k2
              have t1 : (s1.grade != u1.grade) = false := by rw [k3]; simp
              have k4' := k4
              clear k1 k2 k3
              by_cases e1 : f ≤ yv
              · by_cases e2 : yv < t
                · rw [if_pos ⟨e1, e2⟩] at k4'
                  by_cases e3 : s1.speed ≤ v
                  · have t2 : (u1.speed != s1.speed) = false := by rw [k4']; simp; omega
                    clear k4 k4'
                    go_wp2_with fail
                    refine (to_after (at_is _ p cap yv s1 wr HM.out HRp.out K1.out)).mono ?_
                    rintro e w' ⟨y1, rfl, rfl⟩
                    have za : w.heap.size < y1.val.heap.size := by have := y1.is.size; omega
                    have zd : w.heap.size < y1.val.heap.size + 1 := by omega
                    go_wp2_with fail
                    refine (to_after (at_is A1 q cap1 yv u1 _ HF3.out ((HRq.out.keep y1.is).keep (eal (Ext.refl _) _)) K2.out)).mono ?_
                    rintro e w' ⟨y2, rfl, rfl⟩
                    have zb : y1.val.heap.size < y2.val.heap.size := by have := y2.is.size; simp at this; omega
                    have zc : w.heap.size < y2.val.heap.size := by omega
                    go_wp2
                    go_roundg (6 - (j + 1))
                    case measure => have := HG2.out; omega
                    case rel => exact ⟨j + 1, by go_num, by omega, rfl, eal (etr (eal (etr H2.out.1 y1.is) _) y2.is) _, L6, HL6.out, ((((HC6.out.low y1.is).alloc _).low y2.is).alloc _)⟩
                  · have t2 : (u1.speed != v) = false := by rw [k4']; simp; omega
                    clear k4 k4'
                    go_wp2_with fail
                    refine (to_after (at_is _ p cap yv s1 wr HM.out HRp.out K1.out)).mono ?_
                    rintro e w' ⟨y1, rfl, rfl⟩
                    have za : w.heap.size < y1.val.heap.size := by have := y1.is.size; omega
                    have zd : w.heap.size < y1.val.heap.size + 1 := by omega
                    go_wp2_with fail
                    refine (to_after (at_is A1 q cap1 yv u1 _ HF3.out ((HRq.out.keep y1.is).keep (eal (Ext.refl _) _)) K2.out)).mono ?_
                    rintro e w' ⟨y2, rfl, rfl⟩
                    have zb : y1.val.heap.size < y2.val.heap.size := by have := y2.is.size; simp at this; omega
                    have zc : w.heap.size < y2.val.heap.size := by omega
                    go_wp2
                    go_roundg (6 - (j + 1))
                    case measure => have := HG2.out; omega
                    case rel => exact ⟨j + 1, by go_num, by omega, rfl, eal (etr (eal (etr H2.out.1 y1.is) _) y2.is) _, L6, HL6.out, ((((HC6.out.low y1.is).alloc _).low y2.is).alloc _)⟩
                · have t2 : (u1.speed != s1.speed) = false := by rw [k4, if_neg (by omega)]; simp
                  have e2' : decide (yv < t) = false := by simpa using e2
                  clear k4 k4'
                  go_wp2_with fail
                  refine (to_after (at_is _ p cap yv s1 wr HM.out HRp.out K1.out)).mono ?_
                  rintro e w' ⟨y1, rfl, rfl⟩
                  have za : w.heap.size < y1.val.heap.size := by have := y1.is.size; omega
                  have zd : w.heap.size < y1.val.heap.size + 1 := by omega
                  go_wp2_with fail
                  refine (to_after (at_is A1 q cap1 yv u1 _ HF3.out ((HRq.out.keep y1.is).keep (eal (Ext.refl _) _)) K2.out)).mono ?_
                  rintro e w' ⟨y2, rfl, rfl⟩
                  have zb : y1.val.heap.size < y2.val.heap.size := by have := y2.is.size; simp at this; omega
                  have zc : w.heap.size < y2.val.heap.size := by omega
                  go_wp2
                  go_roundg (6 - (j + 1))
                  case measure => have := HG2.out; omega
                  case rel => exact ⟨j + 1, by go_num, by omega, rfl, eal (etr (eal (etr H2.out.1 y1.is) _) y2.is) _, L6, HL6.out, ((((HC6.out.low y1.is).alloc _).low y2.is).alloc _)⟩
              · have t2 : (u1.speed != s1.speed) = false := by rw [k4, if_neg (by omega)]; simp
                have e1' : decide (f ≤ yv) = false := by simpa using e1
                clear k4 k4'
                go_wp2_with fail
                refine (to_after (at_is _ p cap yv s1 wr HM.out HRp.out K1.out)).mono ?_
                rintro e w' ⟨y1, rfl, rfl⟩
                have za : w.heap.size < y1.val.heap.size := by have := y1.is.size; omega
                have zd : w.heap.size < y1.val.heap.size + 1 := by omega
                go_wp2_with fail
                refine (to_after (at_is A1 q cap1 yv u1 _ HF3.out ((HRq.out.keep y1.is).keep (eal (Ext.refl _) _)) K2.out)).mono ?_
                rintro e w' ⟨y2, rfl, rfl⟩
                have zb : y1.val.heap.size < y2.val.heap.size := by have := y2.is.size; simp at this; omega
                have zc : w.heap.size < y2.val.heap.size := by omega
                go_wp2
                go_roundg (6 - (j + 1))
                case measure => have := HG2.out; omega
                case rel => exact ⟨j + 1, by go_num, by omega, rfl, eal (etr (eal (etr H2.out.1 y1.is) _) y2.is) _, L6, HL6.out, ((((HC6.out.low y1.is).alloc _).low y2.is).alloc _)⟩
          · go_wp2
            go_roundg (p.length - (k + 1))
            case measure => have := HG.out; omega
            case rel => exact ⟨k + 1, by go_num, by omega, rfl, H2.out.1⟩
      · go_wp2_with fail
        refine (limit_any A1 q cap1 f t v wr (by omega) (HR1.out.keep H.out)).mono ?_
        rintro e w3 ⟨u3, rfl, ho3, hb3⟩
        rw [HF4.out] at ho3
        obtain ⟨A3, cap3, rfl, hr3, hm3⟩ := ho3.rd Sgc_len
        have HR3 := Lib.hid hr3
        have HB3 := Lib.hid hb3
        have HM3 := Lib.hid hm3
        clear ho3 hr3 hb3 hm3
        go_wp2_with fail
        refine (to_after (same_any A3 A1 q q cap3 cap1 w3 HM3.out HF3.out HR3.out ((HR1.out.keep H.out).keep HB3.out))).mono ?_
        rintro e w' ⟨y4, rfl, rfl⟩
        rw [HV5.out]
        go_wp2_with fail
        refine (in_after y4 (alive_any _)).mono ?_
        rintro e w' ⟨y5, rfl, rfl⟩
        go_wp2_with fail
        go_ret
        exact ⟨rfl, etr (etr (etr HB1.out H.out) HB3.out) y5.is⟩
  · have key : (100 < p.length) ∨ (p.length ≤ 100 ∧ validB p = false) ∨ (p.length ≤ 100 ∧ validB p = true ∧ ((p.length : Int) == 0) = true) ∨ (p.length ≤ 100 ∧ validB p = true ∧ ((p.length : Int) == 0) = false ∧ v < 1) := by
      rw [beq_iff_eq, beq_eq_false_iff_ne]
      cases hv : validB p
      · simp only [and_true, Bool.false_eq_true, false_and, and_false, or_false]; omega
      · simp only [hv, true_and, Bool.true_eq_false, and_false, false_or] at hall ⊢
        omega
    clear hall
    rcases key with d1 | ⟨d1, d2⟩ | ⟨d1, d2, d3⟩ | ⟨d1, d2, d3, d4⟩
    · go_enter Try.func5, Try.ntmps5
      go_wp2_with (go_at_call 8; refine (to_after (alive_any _)).mono ?_; rintro e w' ⟨y, rfl, rfl⟩)
      go_ret
      exact ⟨rfl, eafter (eal (Ext.refl w) _) y⟩
    all_goals
      go_enter Try.func5, Try.ntmps5
      go_wp2_with (first
        | (go_at_call 11; refine (to_after (valid_any A p cap _ HM.out (HR.out.keep (eal (Ext.refl w) _)))).mono ?_; rintro e w' ⟨y0, rfl, rfl⟩)
        | (go_at_call 8; refine (in_after y0 (alive_any _)).mono ?_; rintro e w' ⟨y, rfl, rfl⟩))
      go_ret
      exact ⟨rfl, eafter (eal (Ext.refl w) _) y⟩
end Go.Proofs.Ytoodehilgogomaa
