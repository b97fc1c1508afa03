/- Walks of package profile and of its reference: Limit. -/
import Derived.Test.YtacnfchoemndeaaDoorWProfG
import Derived.Test.YtacnfchoemndeaaDoorPLimit
import Derived.Test.YtacnfchoemndeaaDoorExt
set_option linter.unusedVariables false
set_option maxRecDepth 100000
set_option linter.unusedSimpArgs false
namespace Go.Proofs.YtacnfchoemndeaaDoor
open Go.ChangeShapes Go.WideShapes Go.ChangeAt Go.RowKit
open Sg

/-- The segment k of a block that begins the list. -/
theorem rd_seg0 {wr : World} {B : Nat} {p : List Sgm} {k : Nat} (h : CellsAt wr B (p.flatMap Sgc)) (hk : k < p.length) :
    ∃ s, p[k]? = some s ∧ B < wr.heap.size ∧ wr.cell? ⟨B, k * 4, none⟩ = some (.int .i64 s.from_) ∧ wr.cell? ⟨B, k * 4 + 1, none⟩ = some (.int .i64 s.to_) ∧ wr.cell? ⟨B, k * 4 + 1 + 1, none⟩ = some (.int .i64 s.grade) ∧ wr.cell? ⟨B, k * 4 + 1 + 1 + 1, none⟩ = some (.int .i64 s.speed) := by
  obtain ⟨s, hs⟩ : ∃ s, p[k]? = some s := ⟨_, List.getElem?_eq_getElem hk⟩
  have f := fun j u hj => h.2 (k * 4 + j) u (flat_at Sgc_len p k j s u hs hj)
  exact ⟨s, hs, h.1, f 0 _ rfl, f 1 _ rfl, f 2 _ rfl, f 3 _ rfl⟩
theorem filter_take' {p : List Sgm} {g : Sgm → Bool} {k : Nat} {s : Sgm} (h : p[k]? = some s) : (p.take (k + 1)).filter g = (p.take k).filter g ++ (if g s = true then [s] else []) := filter_take h
def pcsS (f t v : Int) (s : Sgm) : List Sgm := [befS f t s, midS f t v s, aftS f t s]
set_option maxHeartbeats 8000000 in
theorem limit_any (A : Option Addr) (p : List Sgm) (cap : Nat) (f t v : Int) (w : World) (hm : p.length ≤ 1000000) (hr : Rd w A 4 Sgc p) :
    Calls Tryd.prog 53 #[.slice A p.length cap, .int .i64 f, .int .i64 t, .int .i64 v] w fun e w' => ∃ u, e = .returned u ∧ OwnL w' w.heap.size 53 4 Sgc u (limL p f t v) ∧ Below w.heap.size w w' := by
  have HM : Hid (p.length ≤ maxLen) := by show _ ≤ _; unfold maxLen; omega
  have HR := Lib.hid hr
  clear hr
  obtain ⟨i0, hi, hz0, hz1, hz2⟩ := info_parts seg_info
  by_cases hv : validB p = true
  · by_cases hv1 : 1 ≤ v
    · have HE : Hid (limL p f t v = if (limF f t v p).length ≤ 128 then limF f t v p else []) := by show _ = _; rw [limL, if_pos ⟨hv, hv1⟩]
      have hv1' : decide (v < 1) = false := by simpa using hv1
      go_enter Tryd.func53, Tryd.ntmps53
      go_wp2_with fail
      refine (to_after (valid_any A p cap _ HM.out HR.out)).mono ?_
      rintro e w' ⟨y0, rfl, rfl⟩
      go_wp2
      go_loopg [9, 27] p.length (fun g u i wr => ∃ k : Nat, i = .int .i64 k ∧ k ≤ p.length ∧ g = p.length - k ∧ Hid (Below w.heap.size w wr ∧ OwnL wr w.heap.size 53 4 Sgc u (limF f t v (p.take k))))
      case atStart => exact ⟨0, rfl, by omega, rfl, y0.is, OwnL.nil⟩
      case round =>
        obtain ⟨k, rfl, hk, hg, H⟩ := hrel
        have HG := Lib.hid hg
        clear hg
        by_cases hlt : k < p.length
        · obtain ⟨b, off, s, rfl, hs, hbs, c0, c1, c2, c3⟩ := rd_seg HR.out H.out.1 hlt
          have HT := Lib.hid (limF_take (f := f) (t := t) (v := v) hs)
          have hsz := H.out.1.size
          have hlen : (limF f t v (p.take k)).length ≤ 3 * k := by have := limF_len3 f t v (p.take k); simp at this; omega
          clear hs
          by_cases hp : partB f t s = true
          · have HQ : Hid (limF f t v (p.take (k + 1)) = limF f t v (p.take k) ++ (pcsS f t v s).filter lenB) := by show _ = _; rw [HT.out, limS, if_pos hp]; rfl
            have kk : ((partS f t s).speed ≤ v ∧ min s.speed v = (partS f t s).speed) ∨ (v < (partS f t s).speed ∧ min s.speed v = v) := by
              have : (partS f t s).speed = s.speed := rfl
              rw [this]; omega
            rcases kk with ⟨kk, ek⟩ | ⟨kk, ek⟩
            all_goals have HM2 := Lib.hid ek
            all_goals clear ek
            all_goals go_wp2_with (go_at_call 70; refine (to_after (part_any f t s _)).mono ?_; rintro e w' ⟨y, rfl, rfl⟩)
            all_goals
              have CY := (CellsAt.new (w := wr) (cs := (Sgc s).toArray) (t := 53) rfl).keep y.is
              have ys := CY.1
              have y0 := CY.2 0 _ rfl
              have y1 := CY.2 1 _ rfl
              have y2 := CY.2 2 _ rfl
              have y3 := CY.2 3 _ rfl
              clear CY
              have ys1 : wr.heap.size < y.val.heap.size + 1 := by omega
              have ys2 : wr.heap.size < y.val.heap.size + 1 + 1 := by omega
              have ys3 : wr.heap.size < y.val.heap.size + 1 + 1 + 1 := by omega
              go_region
              go_wp2
            all_goals go_region
            all_goals go_wp2
            all_goals
              go_loopg [9, 63] 3 (fun g u i wj => ∃ j : Nat, i = .int .i64 j ∧ j ≤ 3 ∧ g = 3 - j ∧ Hid (Ext w wj ∧ OwnL wj w.heap.size 53 4 Sgc u (limF f t v (p.take k) ++ ((pcsS f t v s).take j).filter lenB) ∧ CellsAt wj (y.val.heap.size + 1 + 1 + 1) ((pcsS f t v s).flatMap Sgc) ∧ u.ownBlock ≠ some (y.val.heap.size + 1 + 1 + 1)))
            all_goals first
              | (case atStart =>
                  refine ⟨0, rfl, by omega, rfl, edr (edr (eal (eal (eal (eal (etr (eal H.out.1 _) y.is) _) _) _) _)), ?_, ?_, ?_⟩
                  · rw [List.take_zero, List.filter_nil, List.append_nil]
                    exact ((((((H.out.2.alloc _).keep y.is).alloc _).alloc _).alloc _).alloc _).keep (edr (edr (Ext.refl _)))
                  · refine (CellsAt.keep (w := World.alloc _ _) ?_ (edr (edr (Ext.refl _))))
                    have : (pcsS f t v s).flatMap Sgc = [.int .i64 s.from_, .int .i64 (partS f t s).from_, .int .i64 s.grade, .int .i64 s.speed, .int .i64 (partS f t s).from_, .int .i64 (partS f t s).to_, .int .i64 (partS f t s).grade, .int .i64 (min s.speed v), .int .i64 (partS f t s).to_, .int .i64 s.to_, .int .i64 s.grade, .int .i64 s.speed] := rfl
                    rw [this, HM2.out]
                    exact CellsAt.new (by simp)
                  · intro e; have := (H.out.2.lt _ e).2; omega)
              | skip
            all_goals
              obtain ⟨j, rfl, hj, hg2, H2⟩ := hrel
              have HG2 := Lib.hid hg2
              clear hg2
              have hsz2 := H2.out.1.size
              have hlen2 : (limF f t v (p.take k) ++ ((pcsS f t v s).take j).filter lenB).length ≤ 3 * k + 3 := by
                have := List.length_filter_le lenB ((pcsS f t v s).take j)
                have : ((pcsS f t v s).take j).length ≤ j := by simp; omega
                rw [List.length_append]; omega
              by_cases hlt2 : j < 3
              · obtain ⟨q, hq, hB, d0, d1, d2, d3⟩ := rd_seg0 (k := j) H2.out.2.2.1 hlt2
                have HT2 := Lib.hid (filter_take (g := lenB) hq)
                clear hq
                by_cases hb : q.from_ < q.to_
                · have HQ2 : Hid (limF f t v (p.take k) ++ ((pcsS f t v s).take (j + 1)).filter lenB = (limF f t v (p.take k) ++ ((pcsS f t v s).take j).filter lenB) ++ [q]) := by show _ = _; rw [HT2.out, if_pos (show lenB q = true from decide_eq_true hb), List.append_assoc]
                  go_wp2_with (at_builtin
                               refine wp_appE (u := w) Sgc_len Sgc_one Tryd.underlying43 hi hz0 hz1 hz2 rfl (by decide) rfl rfl rfl ((H2.out.2.1.alloc _).alloc _) (eal (eal H2.out.1 _) _) q (wr.heap.size + 1) (by simp [go_sem]) (by exact CellsAt.new (by simp)) (by omega) (by unfold maxLen; omega) ?_
                               intro v1 w1 H1)
                  go_roundg (3 - (j + 1))
                  case measure => have := HG2.out; omega
                  case rel =>
                    have k3 := H1.out.2.2 _ _ H2.out.2.2.2 ((H2.out.2.2.1.alloc _).alloc _)
                    exact ⟨j + 1, by go_num, by omega, rfl, H1.out.2.1, by rw [HQ2.out]; exact H1.out.1, k3.1, k3.2⟩
                · have hb' : decide (q.from_ < q.to_) = false := by simpa using hb
                  have HQ2 : Hid (limF f t v (p.take k) ++ ((pcsS f t v s).take (j + 1)).filter lenB = limF f t v (p.take k) ++ ((pcsS f t v s).take j).filter lenB) := by show _ = _; rw [HT2.out, if_neg (show ¬ lenB q = true from fun h => hb (of_decide_eq_true h)), List.append_nil]
                  clear hb
                  go_wp2
                  go_roundg (3 - (j + 1))
                  case measure => have := HG2.out; omega
                  case rel => exact ⟨j + 1, by go_num, by omega, rfl, eal H2.out.1 _, by rw [HQ2.out]; exact H2.out.2.1.alloc _, H2.out.2.2.1.alloc _, H2.out.2.2.2⟩
              · have HQ2 : Hid (limF f t v (p.take k) ++ ((pcsS f t v s).take j).filter lenB = limF f t v (p.take (k + 1))) := by show _ = _; rw [HQ.out, List.take_of_length_le (l := pcsS f t v s) (by show 3 ≤ j; omega)]
                go_wp2
                go_roundg (p.length - (k + 1))
                case measure => have := HG.out; omega
                case rel => exact ⟨k + 1, by go_num, by omega, rfl, H2.out.1, by rw [← HQ2.out]; exact H2.out.2.1⟩
          · have hp' : partB f t s = false := by simpa using hp
            have HQ : Hid (limF f t v (p.take (k + 1)) = limF f t v (p.take k) ++ [s]) := by show _ = _; rw [HT.out, limS, if_neg hp]
            clear hp
            go_wp2_with (first
              | (go_at_call 70; refine (to_after (part_any f t s _)).mono ?_; rintro e w' ⟨y, rfl, rfl⟩; have CY := (CellsAt.new (w := wr) (cs := (Sgc s).toArray) (t := 53) rfl).keep y.is; have ys := CY.1; have y0 := CY.2 0 _ rfl; have y1 := CY.2 1 _ rfl; have y2 := CY.2 2 _ rfl; have y3 := CY.2 3 _ rfl; clear CY; have ys1 : wr.heap.size < y.val.heap.size + 1 := by omega)
              | (at_builtin
                 refine wp_appE (u := w) Sgc_len Sgc_one Tryd.underlying43 hi hz0 hz1 hz2 rfl (by decide) rfl rfl rfl ((((H.out.2.alloc _).keep y.is).alloc _).alloc _) (eal (eal (etr (eal H.out.1 _) y.is) _) _) s (y.val.heap.size + 1) (by simp [go_sem]) (by exact CellsAt.new (by simp)) (by omega) (by unfold maxLen; omega) ?_
                 intro v1 w1 H1))
            go_roundg (p.length - (k + 1))
            case measure => have := HG.out; omega
            case rel => exact ⟨k + 1, by go_num, by omega, rfl, H1.out.2.1, by rw [HQ.out]; exact H1.out.1⟩
        · have HQ : Hid (limF f t v (p.take k) = limF f t v p) := by show _ = _; rw [List.take_of_length_le (by omega)]
          have ho := H.out.2
          rw [HQ.out] at ho
          obtain ⟨A1, cap1, rfl, _, _⟩ := ho.rd Sgc_len
          have HO := Lib.hid ho
          clear ho
          by_cases hl : (limF f t v p).length ≤ 128
          · have hl' : decide (128 < (limF f t v p).length) = false := by simpa using hl
            have HX : Hid (limL p f t v = limF f t v p) := by show _ = _; rw [HE.out, if_pos hl]
            go_wp2
            go_ret
            exact ⟨_, rfl, by rw [HX.out]; exact HO.out, H.out.1⟩
          · have hl' : decide (128 < (limF f t v p).length) = true := by simpa using hl
            have HX : Hid (limL p f t v = []) := by show _ = _; rw [HE.out, if_neg hl]
            go_wp2
            go_ret
            exact ⟨_, rfl, by rw [HX.out]; exact OwnL.nil, H.out.1⟩
    · have HX : Hid (limL p f t v = []) := by show _ = _; rw [limL, if_neg (fun h => hv1 h.2)]
      have hv1' : v < 1 := by omega
      go_enter Tryd.func53, Tryd.ntmps53
      go_wp2_with (go_at_call 36; refine (to_after (valid_any A p cap _ HM.out HR.out)).mono ?_; rintro e w' ⟨y, rfl, rfl⟩)
      go_ret
      exact ⟨_, rfl, by rw [HX.out]; exact OwnL.nil, y.is⟩
  · have hv' : validB p = false := by simpa using hv
    have HX : Hid (limL p f t v = []) := by show _ = _; rw [limL, if_neg (fun h => hv h.1)]
    clear hv
    go_enter Tryd.func53, Tryd.ntmps53
    go_wp2_with (go_at_call 36; refine (to_after (valid_any A p cap _ HM.out HR.out)).mono ?_; rintro e w' ⟨y, rfl, rfl⟩)
    go_ret
    exact ⟨_, rfl, by rw [HX.out]; exact OwnL.nil, y.is⟩
end Go.Proofs.YtacnfchoemndeaaDoor
