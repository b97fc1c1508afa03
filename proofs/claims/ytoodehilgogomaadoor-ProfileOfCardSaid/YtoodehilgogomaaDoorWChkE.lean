/- Walks of signallingref07.elements, balises: they return; elements says that elements and joints are right. -/
import Derived.Test.YtoodehilgogomaaDoorWChkC
set_option linter.unusedVariables false
set_option linter.unusedSimpArgs false
set_option maxRecDepth 100000
namespace Go.Proofs.YtoodehilgogomaaDoor
open Go.ChangeShapes Go.WideShapes Go.ChangeAt Go.RowKit
open Sg

theorem inf_En : (Tryd.prog.info? 63).map (fun i => (i.zero, i.size, i.bytes)) = some (some (.agg #[.int .i64 0, .int .i64 0]), 2, 16) := by kernel_rfl
/-- The joints' ends are at elements. -/
def JtsOk (els : List Elm) (jts : List Jnt) : Prop := ∀ (k : Nat) j, jts[k]? = some j → hasEl els j.ae ∧ hasEl els j.be
theorem exist_ab (L : Lay) (a b : Int) (w : World) (hL : LayOk w L) : Calls Tryd.prog 31 #[.agg #[.string L.name, .slice L.aS L.secs.length L.cS, .slice L.aE L.els.length L.cE, .slice L.aJ L.jts.length L.cJ, .slice L.aG L.sgs.length L.cG, .slice L.aB L.bals.length L.cB], .agg #[.int .i64 a, .int .i64 b]] w fun r w' => r = .returned (.bool (exB L.els ⟨a, b⟩)) ∧ Below w.heap.size w w' := ends_exist L ⟨a, b⟩ w hL
theorem lt_up2 {a b : Nat} (h : a < b) : a < b + 1 := by omega
set_option maxHeartbeats 16000000 in
theorem elements_any (L : Lay) (w : World) (hL : LayOk w L) (hF : FewL L) : Calls Tryd.prog 12 #[.agg #[.string L.name, .slice L.aS L.secs.length L.cS, .slice L.aE L.els.length L.cE, .slice L.aJ L.jts.length L.cJ, .slice L.aG L.sgs.length L.cG, .slice L.aB L.bals.length L.cB]] w (RetE (fun n => n = 0 → ElsOk L.els ∧ JtsOk L.els L.jts) w) := by
  obtain ⟨i0, hi, hz0, hz1, hz2⟩ := info_parts inf_En
  have HII := Lib.hid hi
  have HL := Lib.hid hL
  have HF := Lib.hid hF
  clear hi hL hF
  have hf1 := HF.out.1
  have hf2 := HF.out.2.1
  have hf3 := HF.out.2.2.1
  go_enter Tryd.func12, Tryd.ntmps12
  go_wp2
  go_loopg [12] L.els.length (fun g ix wr => ∃ k : Nat, ix = .int .i64 k ∧ k ≤ L.els.length ∧ g = L.els.length - k ∧ Hid (Ext w wr ∧ LayAt wr w.heap.size L ∧ ∀ (i : Nat) x, i < k → L.els[i]? = some x → RightP x))
  case atStart => exact ⟨0, rfl, by omega, by omega, eal (Ext.refl _) _, CellsAt.new rfl, fun i x h => absurd h (by omega)⟩
  case round =>
    obtain ⟨k, rfl, hk, hg, H⟩ := hrel
    have HG := Lib.hid hg
    clear hg
    obtain ⟨l0, a0, a1, a2, a3, a4, a5⟩ := layAt_cells H.out.2.1
    have l1 := lt_up2 l0
    by_cases hlt : k < L.els.length
    · obtain ⟨b, off, x, hA, hs, hbs, c0, c1, c2, c3, c4, c5, c6⟩ := rd_el HL.out.hE H.out.1 hlt
      have HS := Lib.hid hs
      have HA := Lib.hid hA
      have E4 : Hid (Ext wr (wr.alloc (.cells #[.string x.name, .int .i64 x.kind, .int .i64 x.len, .int .i64 x.grade, .int .i64 x.speed, .int .i64 x.slow, .int .i64 x.sec] 49))) := eal (Ext.refl _) _
      have HRT : Hid (∀ w', Calls Tryd.prog 29 #[.agg #[.string L.name, .slice L.aS L.secs.length L.cS, .slice (some ⟨b, off, none⟩) L.els.length L.cE, .slice L.aJ L.jts.length L.cJ, .slice L.aG L.sgs.length L.cG, .slice L.aB L.bals.length L.cB], .agg #[.string x.name, .int .i64 x.kind, .int .i64 x.len, .int .i64 x.grade, .int .i64 x.speed, .int .i64 x.slow, .int .i64 x.sec]] w' (RetB (fun b => b = true → RightP x) w')) := fun w' => by
        have := right_any L x w'
        rw [hA] at this
        exact this
      rw [hA] at a2 ⊢
      clear hs hA
      go_wp2_with (go_at_call 29; refine (HRT.out _).mono ?_; rintro e w7 ⟨bb, rfl, hp, hb7⟩; have H7 := Lib.hid hb7; have HP := Lib.hid hp; clear hb7 hp; cases bb)
      · go_ret
        exact RetE.mk (fun h => by cases h) (etr (etr H.out.1 E4.out) H7.out)
      · rw [← HA.out]
        go_roundg (L.els.length - (k + 1))
        case measure => have := HG.out; omega
        case rel => exact ⟨k + 1, by go_num, by omega, rfl, etr (etr H.out.1 E4.out) H7.out, H.out.2.1.keep (etr E4.out H7.out), fun i y hi hy => by
          by_cases e : i = k
          · subst e; rw [HS.out] at hy; cases hy; exact HP.out (by simp)
          · exact H.out.2.2 i y (by omega) hy⟩
    · have HE : Hid (ElsOk L.els) := fun i x hx => H.out.2.2 i x (by have := (List.getElem?_eq_some_iff.1 hx).1; omega) hx
      have HH := Lib.hid (And.intro H.out.1 H.out.2.1)
      go_wp2
      clear a0 a1 a2 a3 a4 a5 l0 l1
      go_loopg [24] L.secs.length (fun g ix wr => ∃ k : Nat, ix = .int .i64 k ∧ k ≤ L.secs.length ∧ g = L.secs.length - k ∧ Hid (Ext w wr ∧ LayAt wr w.heap.size L))
      case atStart => exact ⟨0, rfl, by omega, by omega, HH.out⟩
      case round =>
        obtain ⟨k, rfl, hk, hg, H⟩ := hrel
        have HG := Lib.hid hg
        clear hg
        obtain ⟨l0, a0, a1, a2, a3, a4, a5⟩ := layAt_cells H.out.2
        by_cases hlt : k < L.secs.length
        · go_wp2_with (go_at_call 30; refine (members_any L (k : Int) _ (HL.out.keep H.out.1) (by omega)).mono ?_; rintro e w7 ⟨Am, nm, cm, rfl, hb7⟩; have H7 := Lib.hid hb7; clear hb7)
          all_goals first | (go_ret; exact RetE.mk (fun h => by cases h) (etr H.out.1 H7.out)) | (go_roundg (L.secs.length - (k + 1)))
          all_goals first | (have := HG.out; omega) | exact ⟨k + 1, by go_num, by omega, rfl, etr H.out.1 H7.out, H.out.2.keep H7.out⟩
        · have HH := Lib.hid H.out
          go_wp2
          clear a0 a1 a2 a3 a4 a5 l0
          go_loopg [6, 36] L.jts.length (fun g x6 ix wr => ∃ (k : Nat) (xs : List Sg.End), ix = .int .i64 k ∧ k ≤ L.jts.length ∧ g = L.jts.length - k ∧ Hid (Ext w wr ∧ LayAt wr w.heap.size L ∧ OwnL wr w.heap.size 63 2 Enc x6 xs ∧ x6.ownBlock ≠ some w.heap.size ∧ xs.length ≤ 2 * k ∧ ∀ (i : Nat) j, i < k → L.jts[i]? = some j → hasEl L.els j.ae ∧ hasEl L.els j.be))
          case atStart => exact ⟨0, [], rfl, by omega, by omega, HH.out.1, HH.out.2, OwnL.nil, by simp [Value.ownBlock], by simp, fun i x h => absurd h (by omega)⟩
          case round =>
            obtain ⟨k, xs, rfl, hk, hg, H⟩ := hrel
            have HG := Lib.hid hg
            clear hg
            obtain ⟨l0, a0, a1, a2, a3, a4, a5⟩ := layAt_cells H.out.2.1
            have l1 := lt_up2 l0
            have hxl := H.out.2.2.2.2.1
            by_cases hlt : k < L.jts.length
            · obtain ⟨b, off, j, hA, hs, hbs, c0, c1, c2, c3⟩ := rd_jt HL.out.hJ H.out.1 hlt
              have HS := Lib.hid hs
              have HA := Lib.hid hA
              have E4 : Hid (Ext w (wr.alloc (.cells #[.int .i64 j.ae, .int .i64 j.as_, .int .i64 j.be, .int .i64 j.bs] 65))) := eal H.out.1 _
              have X4 : Hid (Ext wr (wr.alloc (.cells #[.int .i64 j.ae, .int .i64 j.as_, .int .i64 j.be, .int .i64 j.bs] 65))) := eal (Ext.refl _) _
              rw [hA]
              clear hs hA
              have key : (exB L.els ⟨j.ae, j.as_⟩ = false) ∨ (exB L.els ⟨j.ae, j.as_⟩ = true ∧ exB L.els ⟨j.be, j.bs⟩ = false) ∨ (exB L.els ⟨j.ae, j.as_⟩ = true ∧ exB L.els ⟨j.be, j.bs⟩ = true ∧ (((j.ae == j.be) = true ∧ (j.as_ == j.bs) = true) ∨ ((j.ae == j.be) = true ∧ (j.as_ == j.bs) = false) ∨ (j.ae == j.be) = false)) := by
                cases exB L.els ⟨j.ae, j.as_⟩ <;> cases exB L.els ⟨j.be, j.bs⟩ <;> cases (j.ae == j.be) <;> cases (j.as_ == j.bs) <;> simp
              rcases key with q1 | ⟨q1, q2⟩ | ⟨q1, q2, ⟨q3, q4⟩ | q3⟩
              iterate 3
                · go_wp2_with (first
                    | (go_at_call 31; refine (to_after (exist_ab L _ _ _ (HL.out.keep E4.out))).mono ?_; rintro e w' ⟨y, rfl, rfl⟩)
                    | (go_at_call 31; refine (in_after _ (exist_ab L _ _ _ (HL.out.keep (etr E4.out (After.is _))))).mono ?_; rintro e w' ⟨y, rfl, rfl⟩))
                  go_ret
                  exact RetE.mk (fun h => by cases h) (etr E4.out (After.is _))
              · have HQ := Lib.hid (And.intro (exB_has q1) (exB_has q2))
                have HNX : Hid (∀ (i : Nat) y, i < k + 1 → L.jts[i]? = some y → hasEl L.els y.ae ∧ hasEl L.els y.be) := fun i y hi hy => by
                  by_cases e : i = k
                  · subst e; rw [HS.out] at hy; cases hy; exact HQ.out
                  · exact H.out.2.2.2.2.2 i y (by omega) hy
                rcases q3 with ⟨q3, q4⟩ | q3
                iterate 2
                  · go_upto_region 19 with (first
                      | (go_at_call 31; refine (to_after (exist_ab L _ _ _ (HL.out.keep E4.out))).mono ?_; rintro e w' ⟨y, rfl, rfl⟩)
                      | (go_at_call 31; refine (in_after _ (exist_ab L _ _ _ (HL.out.keep (etr E4.out (After.is _))))).mono ?_; rintro e w' ⟨y, rfl, rfl⟩))
                    obtain ⟨w5, hw5⟩ : ∃ w5, w5 = y.val.alloc (.cells #[.int .i64 j.ae, .int .i64 j.as_, .int .i64 j.be, .int .i64 j.bs] 63) := ⟨_, rfl⟩
                    have X5 : Hid (Ext wr w5) := hw5 ▸ etr X4.out (eal y.is _)
                    have C5 : Hid (CellsAt w5 y.val.heap.size (List.flatMap Enc [⟨j.ae, j.as_⟩, ⟨j.be, j.bs⟩])) := hw5 ▸ CellsAt.new rfl
                    rw [hw5] at X5 C5
                    clear hw5
                    go_wp2_with (at_builtin
                                 refine wp_appL (u := w) Enc_len Enc_one Tryd.underlying61 HII.out hz0 hz1 hz2 rfl (by decide) rfl rfl rfl (H.out.2.2.1.keep X5.out) (etr H.out.1 X5.out) [⟨j.ae, j.as_⟩, ⟨j.be, j.bs⟩] (some ⟨y.val.heap.size, 0, none⟩) 2 (by simp [go_sem]) (rd_cells Enc_len C5.out) (by simp; omega) (by simp; unfold maxLen; omega) ?_
                                 intro v1 w6 H6)
                    rw [← HA.out]
                    go_roundg (L.jts.length - (k + 1))
                    case measure => have := HG.out; omega
                    case rel => exact ⟨k + 1, _, by go_num, by omega, rfl, H6.out.2.1, (H.out.2.1.keep X5.out).grown H6.out.2.2.1 H.out.2.2.2.1, H6.out.1, H6.out.2.2.2 _ H.out.2.2.2.1 (Nat.lt_of_lt_of_le H.out.2.1.1 X5.out.size), by simp; omega, HNX.out⟩
            · obtain ⟨A1, c1, rfl, hr1, hm1⟩ := H.out.2.2.1.rd Enc_len
              have HR1 := Lib.hid hr1
              have HM1 := Lib.hid hm1
              have HJ : Hid (JtsOk L.els L.jts) := fun i j hj => H.out.2.2.2.2.2 i j (by have := (List.getElem?_eq_some_iff.1 hj).1; omega) hj
              clear hr1 hm1
              go_wp2_with (go_at_call 32; refine (ends_any A1 xs c1 _ HM1.out HR1.out).mono ?_; rintro e w7 ⟨bb, rfl, _, hb7⟩; have H7 := Lib.hid hb7; clear hb7)
              all_goals go_ret
              all_goals exact RetE.mk (fun _ => ⟨HE.out, HJ.out⟩) (etr H.out.1 H7.out)
end Go.Proofs.YtoodehilgogomaaDoor
