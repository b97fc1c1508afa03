/- Walks of package profile and of its reference: the reference's Limit. -/
import Derived.Test.YtacnfchoemndeaaDoorWProfH
import Derived.Deep.Cut
set_option linter.unusedVariables false
set_option maxRecDepth 100000
set_option linter.unusedSimpArgs false
namespace Go.Proofs.YtacnfchoemndeaaDoor
open Go.ChangeShapes Go.WideShapes Go.ChangeAt Go.RowKit
open Sg

theorem rd_one {w : World} {b off k : Nat} {p : List Sgm} {s : Sgm} (h : Rd w (some ⟨b, off, none⟩) 4 Sgc p) (hs : p[k]? = some s) : Rd w (some ⟨b, off + k * 4, none⟩) 4 Sgc [s] := fun _ => by
  obtain ⟨b', off', e, h1, h2⟩ := h (by have := (List.getElem?_eq_some_iff.1 hs).1; omega)
  injection e with e
  injection e with e1 e2
  subst e1 e2
  refine ⟨b, off + k * 4, rfl, h1, fun i x hi j v hj => ?_⟩
  have : i = 0 := by have := (List.getElem?_eq_some_iff.1 hi).1; simp at this; omega
  subst this
  simp at hi; subst hi
  have := h2 k s hs j v hj
  simpa using this
theorem segOk_of {p : List Sgm} (hv : validB p = true) {k : Nat} {s : Sgm} (hs : p[k]? = some s) : SegOk s := by
  obtain ⟨b, hb⟩ := ch_of (validB_true.1 hv)
  obtain ⟨hl, rfl⟩ := List.getElem?_eq_some_iff.1 hs
  exact hb.ok _ (List.getElem_mem hl)
theorem filter_one_len (s : Sgm) : ([s].filter lenB).length ≤ 1 := by have := List.length_filter_le lenB [s]; simpa using this
set_option maxHeartbeats 8000000 in
theorem rlimit_any (A : Option Addr) (p : List Sgm) (cap : Nat) (f t v : Int) (w : World) (hm : p.length ≤ 1000000) (hcap : p.length ≤ cap) (hr : Rd w A 4 Sgc p) :
    Calls Tryd.prog 40 #[.slice A p.length cap, .int .i64 f, .int .i64 t, .int .i64 v] w fun e w' => ∃ u, e = .returned u ∧ OwnL w' w.heap.size 53 4 Sgc u (limL p f t v) ∧ Below w.heap.size w w' := by
  have HM : Hid (p.length ≤ maxLen) := by show _ ≤ _; unfold maxLen; omega
  have HR := Lib.hid hr
  clear hr
  obtain ⟨i0, hi, hz0, hz1, hz2⟩ := info_parts seg_info
  by_cases hv : validB p = true
  · by_cases hv1 : 1 ≤ v
    · have HE : Hid (limL p f t v = if (limF f t v p).length ≤ 128 then limF f t v p else []) := by show _ = _; rw [limL, if_pos ⟨hv, hv1⟩]
      have hv1' : decide (v < 1) = false := by simpa using hv1
      go_enter Tryd.func40, Tryd.ntmps40
      go_wp2_with fail
      refine (to_after (rvalid_any A p cap _ HM.out HR.out)).mono ?_
      rintro e w' ⟨y0, rfl, rfl⟩
      go_wp2
      go_loopg [9, 22] p.length (fun g u i wr => ∃ k : Nat, i = .int .i64 k ∧ k ≤ p.length ∧ g = p.length - k ∧ Hid (Below w.heap.size w wr ∧ OwnL wr w.heap.size 53 4 Sgc u (limF f t v (p.take k))))
      case atStart => exact ⟨0, rfl, by omega, rfl, y0.is, OwnL.nil⟩
      case round =>
        obtain ⟨k, rfl, hk, hg, H⟩ := hrel
        have HG := Lib.hid hg
        clear hg
        by_cases hlt : k < p.length
        · obtain ⟨b, off, s, rfl, hs, hbs, c0, c1, c2, c3⟩ := rd_seg HR.out H.out.1 hlt
          have HT := Lib.hid (limF_take (f := f) (t := t) (v := v) hs)
          have HS1 := Lib.hid (rd_one (HR.out.keep H.out.1) hs)
          have HS := Lib.hid hs
          have hso := segOk_of hv hs
          have HSO := Lib.hid hso
          have hsz := H.out.1.size
          have hlen : (limF f t v (p.take k)).length ≤ 3 * k := by have := limF_len3 f t v (p.take k); simp at this; omega
          clear hs hso
          have hk1 : k + 1 ≤ cap := by omega
          by_cases hp : partB f t s = true
          · obtain ⟨q1, q2, HQ, HB, HA, lb, la⟩ : ∃ q1 q2, Hid (limF f t v (p.take (k + 1)) = limF f t v (p.take k) ++ (q1 ++ ([midS f t v s] ++ q2))) ∧ Hid (cutL [s] (-1073741824) f = q1) ∧ Hid (cutL [s] t 1073741824 = q2) ∧ q1.length ≤ 1 ∧ q2.length ≤ 1 :=
              ⟨_, _, by show _ = _; rw [HT.out, lim_three hp], cut_before HSO.out hp, cut_after HSO.out hp, filter_one_len _, filter_one_len _⟩
            have HC : Hid (cutL [s] f t = [partS f t s]) := by show _ = _; rw [cut_one HSO.out, if_pos hp]
            have kk : ((partS f t s).speed ≤ v ∧ min s.speed v = (partS f t s).speed) ∨ (v < (partS f t s).speed ∧ min s.speed v = v) := by
              have : (partS f t s).speed = s.speed := rfl
              rw [this]; omega
            rcases kk with ⟨kk, ek⟩ | ⟨kk, ek⟩
            all_goals have HM2 := Lib.hid ek
            all_goals clear ek
            all_goals go_wp2_with fail
            all_goals refine (rcut_any (some ⟨b, off + k * 4, none⟩) [s] _ f t wr (by simp) HS1.out).mono ?_
            all_goals
              rintro e w1 ⟨v1, rfl, ho1, hb1⟩
              rw [HC.out] at ho1
              obtain ⟨g, cap1, rfl, hc1, hg1, hw1⟩ := ho1.form (by simp)
              have HB1 := Lib.hid hb1
              have HW1 := Lib.hid hw1
              have hg2 := hw1.1
              have m3 := hw1.2.1 3 _ rfl
              have mf := hw1.2.2 3
              clear ho1 hb1 hw1
              simp only [List.length_cons, List.length_nil, Nat.zero_add]
              go_upto_region 12 with (fail)
            all_goals
              have ht1 := etr H.out.1 HB1.out
              obtain ⟨w2, hw2, HX2⟩ : ∃ w2, w2 = w1.setCell ⟨g, 3, none⟩ (.int .i64 (min s.speed v)) ∧ Hid (CellsAt w2 g (Sgc (midS f t v s)) ∧ OwnL w2 w.heap.size 53 4 Sgc u9 (limF f t v (p.take k)) ∧ u9.ownBlock ≠ some g ∧ Ext w w2) :=
                ⟨_, rfl, (HW1.out.set 3 (by simp [Sgc]) _).cells, (H.out.2.keep HB1.out).only (Only.set _ _ _ _) (fun e => by have := (H.out.2.lt _ e).2; omega), fun e => by have := (H.out.2.lt _ e).2; omega, eset ht1 (by omega) _ _⟩
              rw [HM2.out] at hw2
              rw [← hw2]
              clear hw2 m3 mf ht1
              have HS2 := Lib.hid (rd_one (HR.out.keep HX2.out.2.2.2) HS.out)
              go_wp2_with fail
              refine (rcut_any (some ⟨b, off + k * 4, none⟩) [s] _ (-1073741824) f w2 (by simp) HS2.out).mono ?_
              rintro e w3 ⟨v3, rfl, ho3, hb3⟩
              rw [HB.out] at ho3
              obtain ⟨A3, cap3, rfl, hr3, _⟩ := ho3.rd Sgc_len
              have HR3 := Lib.hid hr3
              have HB3 := Lib.hid hb3
              clear ho3 hb3 hr3
              go_wp2_with (first
                | (at_builtin
                   refine wp_appL (u := w) Sgc_len Sgc_one Tryd.underlying43 hi hz0 hz1 hz2 rfl (by decide) rfl rfl rfl (HX2.out.2.1.keep HB3.out) (etr HX2.out.2.2.2 HB3.out) _ A3 cap3 (by simp [go_sem]) HR3.out (by omega) (by unfold maxLen; omega) ?_
                   intro v4 w4 H4
                   have c4 : CellsAt w4 g (Sgc (midS f t v s)) := (HX2.out.1.low HB3.out).grown H4.out.2.2.1 HX2.out.2.2.1
                   have n4 := H4.out.2.2.2 g HX2.out.2.2.1 (HX2.out.1.low HB3.out).1
                   have HR4 := Lib.hid (rd_cells (xs := [midS f t v s]) Sgc_len (by simpa using c4))
                   have hsz4 := esz H4.out.2.1
                   clear c4
                   have hl4 : (limF f t v (p.take k) ++ q1).length ≤ 3 * k + 1 := by rw [List.length_append]; omega)
                | (at_builtin
                   refine wp_appL (u := w) Sgc_len Sgc_one Tryd.underlying43 hi hz0 hz1 hz2 rfl (by decide) rfl rfl rfl H4.out.1 H4.out.2.1 [midS f t v s] (some ⟨g, 0, none⟩) cap1 (by simp [go_sem]) HR4.out (by simp only [List.length_cons, List.length_nil]; omega) (by simp only [List.length_cons, List.length_nil]; unfold maxLen; omega) ?_
                   intro v5 w5 H5
                   have hl5 : ((limF f t v (p.take k) ++ q1) ++ [midS f t v s]).length ≤ 3 * k + 2 := by rw [List.length_append]; simp only [List.length_cons, List.length_nil]; omega))
              have HS5 := Lib.hid (rd_one (HR.out.keep H5.out.2.1) HS.out)
              refine (rcut_any (some ⟨b, off + k * 4, none⟩) [s] _ t 1073741824 w5 (by simp) HS5.out).mono ?_
              rintro e w6 ⟨v6, rfl, ho6, hb6⟩
              rw [HA.out] at ho6
              obtain ⟨A6, cap6, rfl, hr6, _⟩ := ho6.rd Sgc_len
              have HR6 := Lib.hid hr6
              have HB6 := Lib.hid hb6
              clear ho6 hb6 hr6
              go_wp2_with (at_builtin
                           refine wp_appL (u := w) Sgc_len Sgc_one Tryd.underlying43 hi hz0 hz1 hz2 rfl (by decide) rfl rfl rfl (H5.out.1.keep HB6.out) (etr H5.out.2.1 HB6.out) _ A6 cap6 (by simp [go_sem]) HR6.out (by omega) (by unfold maxLen; omega) ?_
                           intro v7 w7 H7)
              go_roundg (p.length - (k + 1))
            all_goals first | (case measure => have := HG.out; omega) | skip
            all_goals exact ⟨k + 1, by go_num, by omega, rfl, H7.out.2.1, by rw [HQ.out, ← List.append_assoc, ← List.append_assoc]; exact H7.out.1⟩
          · have hp' : partB f t s = false := by simpa using hp
            have HQ : Hid (limF f t v (p.take (k + 1)) = limF f t v (p.take k) ++ [s]) := by show _ = _; rw [HT.out, limS, if_neg hp]
            have HC : Hid (cutL [s] f t = []) := by show _ = _; rw [cut_one HSO.out, if_neg hp]
            clear hp
            go_wp2_with fail
            refine (rcut_any (some ⟨b, off + k * 4, none⟩) [s] _ f t wr (by simp) HS1.out).mono ?_
            rintro e w1 ⟨v1, rfl, ho1, hb1⟩
            rw [HC.out] at ho1
            obtain ⟨A1, cap1, rfl, _, _⟩ := ho1.rd Sgc_len
            have HB1 := Lib.hid hb1
            have e0 := (hb1.cell (p := ⟨b, off + k * 4, none⟩) hbs).trans c0
            have e1 := (hb1.cell (p := ⟨b, off + k * 4 + 1, none⟩) hbs).trans c1
            have e2 := (hb1.cell (p := ⟨b, off + k * 4 + 1 + 1, none⟩) hbs).trans c2
            have e3 := (hb1.cell (p := ⟨b, off + k * 4 + 1 + 1 + 1, none⟩) hbs).trans c3
            clear ho1 hb1
            go_wp2_with (at_builtin
                         refine wp_appE (u := w) Sgc_len Sgc_one Tryd.underlying43 hi hz0 hz1 hz2 rfl (by decide) rfl rfl rfl ((H.out.2.keep HB1.out).alloc _) (eal (etr H.out.1 HB1.out) _) s w1.heap.size (by simp [go_sem]) (by exact CellsAt.new (by simp)) (by omega) (by unfold maxLen; omega) ?_
                         intro v1 w1 H1)
            go_roundg (p.length - (k + 1))
            case measure => have := HG.out; omega
            case rel => exact ⟨k + 1, by go_num, by omega, rfl, H1.out.2.1, by rw [HQ.out]; exact H1.out.1⟩
        · have HQ : Hid (limF f t v (p.take k) = limF f t v p) := by show _ = _; rw [List.take_of_length_le (by omega)]
          have ho := H.out.2
          rw [HQ.out] at ho
          obtain ⟨A1, cap1, rfl, _, _⟩ := ho.rd Sgc_len
          have HO := Lib.hid ho
          clear ho
          by_cases hl : (limF f t v p).length ≤ 128
          · have hl' : decide (128 < (limF f t v p).length) = false := by simpa using hl
            have HX : Hid (limL p f t v = limF f t v p) := by show _ = _; rw [HE.out, if_pos hl]
            go_wp2
            go_ret
            exact ⟨_, rfl, by rw [HX.out]; exact HO.out, H.out.1⟩
          · have hl' : decide (128 < (limF f t v p).length) = true := by simpa using hl
            have HX : Hid (limL p f t v = []) := by show _ = _; rw [HE.out, if_neg hl]
            go_wp2
            go_ret
            exact ⟨_, rfl, by rw [HX.out]; exact OwnL.nil, H.out.1⟩
    · have HX : Hid (limL p f t v = []) := by show _ = _; rw [limL, if_neg (fun h => hv1 h.2)]
      have hv1' : v < 1 := by omega
      go_enter Tryd.func40, Tryd.ntmps40
      go_wp2_with (go_at_call 21; refine (to_after (rvalid_any A p cap _ HM.out HR.out)).mono ?_; rintro e w' ⟨y, rfl, rfl⟩)
      go_ret
      exact ⟨_, rfl, by rw [HX.out]; exact OwnL.nil, y.is⟩
  · have hv' : validB p = false := by simpa using hv
    have HX : Hid (limL p f t v = []) := by show _ = _; rw [limL, if_neg (fun h => hv h.1)]
    clear hv
    go_enter Tryd.func40, Tryd.ntmps40
    go_wp2_with (go_at_call 21; refine (to_after (rvalid_any A p cap _ HM.out HR.out)).mono ?_; rintro e w' ⟨y, rfl, rfl⟩)
    go_ret
    exact ⟨_, rfl, by rw [HX.out]; exact OwnL.nil, y.is⟩
end Go.Proofs.YtacnfchoemndeaaDoor
