/- Walk of signallingref07.names: it returns three lists of strings. -/
import Derived.Test.YtoodehilgogomaaDoorWChkB
import Derived.Test.YtoodehilgogomaaDoorLayK
set_option linter.unusedVariables false
set_option linter.unusedSimpArgs false
set_option maxRecDepth 100000
namespace Go.Proofs.YtoodehilgogomaaDoor
open Go.ChangeShapes Go.WideShapes Go.ChangeAt Go.RowKit
open Sg

theorem lt_up1 {a b : Nat} (h : a < b) : a < b + 1 := by omega
theorem inf_Str : (Tryd.prog.info? 9).map (fun i => (i.zero, i.size, i.bytes)) = some (some (.string ⟨#[]⟩), 1, 16) := by kernel_rfl
def Fine (xs : List ByteArray) : Prop := xs.length ≤ 60 ∧ ∀ (i : Nat) x, xs[i]? = some x → x.size ≤ maxLen
/-- Three lists of strings. -/
def RetN (w : World) (e : Ending) (w' : World) : Prop := ∃ A0 c0 x0 A1 c1 x1 A2 c2 x2, e = .returned (.agg #[.slice A0 (List.length x0) c0, .slice A1 (List.length x1) c1, .slice A2 (List.length x2) c2]) ∧ Rd w' A0 1 Strc x0 ∧ Rd w' A1 1 Strc x1 ∧ Rd w' A2 1 Strc x2 ∧ Fine x0 ∧ Fine x1 ∧ Fine x2 ∧ Below w.heap.size w w'
theorem fine_snoc {ys : List ByteArray} {y : ByteArray} (h : ∀ (i : Nat) x, ys[i]? = some x → x.size ≤ maxLen) (g : y.size ≤ maxLen) : ∀ (i : Nat) x, (ys ++ [y])[i]? = some x → x.size ≤ maxLen := fun i x hx => by
  rcases List.mem_append.1 (List.mem_of_getElem? hx) with hm | hm
  · obtain ⟨j, hj, rfl⟩ := List.getElem_of_mem hm
    exact h j _ (List.getElem?_eq_getElem hj)
  · simp at hm; subst hm; exact g
theorem Rd.blk {α : Type} {w : World} {A : Option Addr} {k : Nat} {enc : α → List Value} {xs : List α} (h : Rd w A k enc xs) (h0 : 0 < xs.length) : ∀ a, A = some a → a.block < w.heap.size := fun a ha => by
  obtain ⟨b, off, e, h1, _⟩ := h h0
  rw [ha] at e; cases e; exact h1
theorem set3' {w : World} {b : Nat} {us : List Value} (v0 v1 v2 : Value) (h : Own w b us) (h3 : us.length = 3) : ∃ w', w' = (((w.setCell ⟨b, 0, none⟩ v0).setCell ⟨b, 1, none⟩ v1).setCell ⟨b, 2, none⟩ v2) ∧ Own w' b [v0, v1, v2] ∧ Only b w w' := set3 v0 v1 v2 h h3
set_option maxHeartbeats 16000000 in
theorem names_any (L : Lay) (w : World) (hL : LayOk w L) (hS : L.secs.length ≤ 60) (hE : L.els.length ≤ 60) (hG : L.sgs.length ≤ 60) : Calls Tryd.prog 26 #[.agg #[.string L.name, .slice L.aS L.secs.length L.cS, .slice L.aE L.els.length L.cE, .slice L.aJ L.jts.length L.cJ, .slice L.aG L.sgs.length L.cG, .slice L.aB L.bals.length L.cB]] w (RetN w) := by
  obtain ⟨i0, hi, hz0, hz1, hz2⟩ := info_parts inf_Str
  have HII := Lib.hid hi
  have HL := Lib.hid hL
  clear hi hL
  go_enter Tryd.func26, Tryd.ntmps26
  go_upto_region 2 with (fail)
  obtain ⟨w0, hw0⟩ : ∃ w0, w0 = (((w.alloc (.cells #[.string L.name, .slice L.aS L.secs.length L.cS, .slice L.aE L.els.length L.cE, .slice L.aJ L.jts.length L.cJ, .slice L.aG L.sgs.length L.cG, .slice L.aB L.bals.length L.cB] 28)).alloc (.cells #[.slice none 0 0, .slice none 0 0, .slice none 0 0] 54)).alloc (.cells #[.slice none 0 0, .slice none 0 0, .slice none 0 0] 54)) := ⟨_, rfl⟩
  rw [← hw0]
  have E0 : Hid (Ext w w0) := hw0 ▸ eal (eal (eal (Ext.refl _) _) _) _
  have L0 : Hid (LayAt w0 w.heap.size L) := hw0 ▸ CellsAt.keep (CellsAt.new rfl) (eal (eal (Ext.refl _) _) _)
  have Z0 : Hid (Own w0 (w.heap.size + 1) [.slice none 0 0, .slice none 0 0, .slice none 0 0]) := hw0 ▸ Own.keep (Own.new (by simp)) (eal (Ext.refl _) _)
  have O0 : Hid (Own w0 (w.heap.size + 1 + 1) [.slice none 0 0, .slice none 0 0, .slice none 0 0]) := hw0 ▸ Own.new (by simp)
  have hsz : w0.heap.size = w.heap.size + 1 + 1 + 1 := by rw [hw0]; simp
  clear hw0
  obtain ⟨l0, a0, a1, a2, a3, a4, a5⟩ := layAt_cells L0.out
  have b0 := O0.out.2.1 0 _ rfl
  have d0 := O0.out.2.2 0
  have b9 := O0.out.1
  apply wp_region_lit
  iterate 12 go_step
  refine wp_appL (u := w0) Strc_len Strc_one Tryd.underlying22 HII.out hz0 hz1 hz2 rfl (by decide) rfl rfl rfl OwnL.nil (Ext.refl _) L.secs L.aS L.cS (by simp [go_sem]) (HL.out.hS.keep E0.out) (by simp; omega) (by simp; unfold maxLen; omega) ?_
  intro v1 w1 H1
  rw [List.nil_append] at H1
  obtain ⟨A0, c0, rfl, hr0, hm0, hg0⟩ := OwnL.rdn Strc_len H1.out.1
  have HR0 := Lib.hid hr0
  have HG0 := Lib.hid hg0
  have X1 : Hid (Ext w0 w1) := H1.out.2.1
  have O1' := O0.out.keep X1.out
  clear hr0 hm0 hg0 b0 d0 b9
  have b0 := O1'.2.1 0 _ rfl
  have d0 := O1'.2.2 0
  have b9 := O1'.1
  go_upto_region 3 with (fail)
  obtain ⟨w2, hw2, HO2, HN2⟩ := setO 0 (.slice A0 L.secs.length c0) O1' (by simp)
  rw [← hw2]
  have E1 : Hid (Ext w w2) := eonly (etr E0.out X1.out) HN2 (by omega)
  have L1 : Hid (LayAt w2 w.heap.size L) := CellsAt.only (L0.out.keep X1.out) HN2 (by omega)
  have Z1 : Hid (Own w2 (w.heap.size + 1) [.slice none 0 0, .slice none 0 0, .slice none 0 0]) := (Z0.out.keep X1.out).only HN2 (by omega)
  have O1 : Hid (Own w2 (w.heap.size + 1 + 1) [.slice A0 L.secs.length c0, .slice none 0 0, .slice none 0 0]) := HO2
  have S1 : Hid (Rd w2 A0 1 Strc L.secs ∧ ∀ a, A0 = some a → a.block < w2.heap.size ∧ a.block ≠ w.heap.size + 1 + 1) := ⟨HR0.out.only HN2 (fun a ha => by have := HG0.out a ha; omega), fun a ha => ⟨by
    subst ha
    have := (H1.out.1.lt a.block rfl).2
    rw [HN2.size]; exact this, by have := HG0.out a ha; omega⟩⟩
  have HB0 : Hid (∀ a, A0 = some a → a.block ≠ w.heap.size + 1) := fun a ha => by have := HG0.out a ha; omega
  have HIE := Lib.hid (fun k x hs => (HL.out.iE k x hs).1)
  have HIG := Lib.hid (fun k x hs => (HL.out.iG k x hs).1)
  clear hw2 HO2 HN2 b0 d0 b9 l0 a0 a1 a2 a3 a4 a5 hsz O1'
  obtain ⟨l0, a0, a1, a2, a3, a4, a5⟩ := layAt_cells L1.out
  go_wp2
  clear l0 a0 a1 a2 a3 a4 a5
  go_loopg [18] L.els.length (fun g ix wr => ∃ (k : Nat) (v : Value) (ys : List ByteArray), ix = .int .i64 k ∧ k ≤ L.els.length ∧ g = L.els.length - k ∧ Hid (Ext w wr ∧ LayAt wr w.heap.size L ∧ Own wr (w.heap.size + 1) [.slice none 0 0, .slice none 0 0, .slice none 0 0] ∧ Own wr (w.heap.size + 1 + 1) [.slice A0 L.secs.length c0, v, .slice none 0 0] ∧ OwnL wr (w.heap.size + 1 + 1 + 1) 9 1 Strc v ys ∧ ys.length ≤ k ∧ (∀ (i : Nat) x, ys[i]? = some x → x.size ≤ maxLen) ∧ Rd wr A0 1 Strc L.secs ∧ ∀ a, A0 = some a → a.block < wr.heap.size ∧ a.block ≠ w.heap.size + 1 + 1 ∧ v.ownBlock ≠ some a.block))
  case atStart => exact ⟨0, .slice none 0 0, [], rfl, by omega, by omega, E1.out, L1.out, Z1.out, O1.out, OwnL.nil, by simp, fun i x h => by simp at h, S1.out.1, fun a ha => ⟨(S1.out.2 a ha).1, (S1.out.2 a ha).2, by simp [Value.ownBlock]⟩⟩
  case round =>
    obtain ⟨k, v, ys, rfl, hk, hg, H⟩ := hrel
    have HG := Lib.hid hg
    clear hg
    by_cases hlt : k < L.els.length
    · obtain ⟨b, off, x, hA, hs, hbs, c1, c2, c3, c4, c5, c6, c7⟩ := rd_el HL.out.hE H.out.1 hlt
      have HX : Hid (x.name.size ≤ maxLen) := HIE.out k x hs
      have n0 := H.out.2.2.2.1.2.1 1 _ rfl
      have n1 := H.out.2.2.2.1.2.2 1
      have n2 := H.out.2.2.2.1.1
      have n3 := lt_up1 n2
      have n4 := lt_up1 n3
      have E4 : Hid (Ext wr ((wr.alloc (.cells #[.string x.name, .int .i64 x.kind, .int .i64 x.len, .int .i64 x.grade, .int .i64 x.speed, .int .i64 x.slow, .int .i64 x.sec] 49)).alloc (.cells #[.string x.name] 9))) := eal (eal (Ext.refl _) _) _
      have HY : Hid (CellsAt ((wr.alloc (.cells #[.string x.name, .int .i64 x.kind, .int .i64 x.len, .int .i64 x.grade, .int .i64 x.speed, .int .i64 x.slow, .int .i64 x.sec] 49)).alloc (.cells #[.string x.name] 9)) (wr.heap.size + 1) (Strc x.name)) := CellsAt.new (by simp)
      have HAA := Lib.hid hA
      have hyl := H.out.2.2.2.2.2.1
      rw [hA]
      clear hs hA
      go_wp2_with (at_builtin
                   refine wp_app1 Strc_len Strc_one Tryd.underlying22 HII.out hz0 hz1 hz2 rfl (by decide) rfl rfl rfl (H.out.2.2.2.2.1.keep E4.out) x.name (wr.heap.size + 1) (by simp [go_sem]) HY.out (by omega) (by unfold maxLen; omega) (by have := E4.out.size; have := H.out.1.size; omega) ?_
                   intro v1 w1 h1 h2 h3
                   obtain ⟨zs, hzs⟩ : ∃ zs, zs = ys ++ [x.name] := ⟨_, rfl⟩
                   rw [← hzs] at h1
                   have HZS := Lib.hid hzs
                   obtain ⟨g, cap1, rfl, hcap, hgb, hown⟩ := h1.form (by rw [hzs]; simp)
                   have HV := Lib.hid h1
                   have HW := Lib.hid h2
                   have HO3 := Lib.hid h3
                   have HO1 : Own w1 (w.heap.size + 1 + 1) _ := (H.out.2.2.2.1.keep E4.out).grown h2 (fun e => by have := H.out.2.2.2.2.1.lt _ e; omega)
                   have HO := Lib.hid HO1
                   have p0 := HO1.2.1 1 _ rfl
                   have p1 := HO1.2.2 1
                   clear h1 h2 h3 HO1 hcap hgb hown hzs)
      rw [← HAA.out]
      obtain ⟨w4, hw4, HO4, HN4⟩ := setO 1 (.slice (some ⟨g, 0, none⟩) zs.length cap1) HO.out (by simp)
      rw [← hw4]
      have NB : ∀ b, b < w.heap.size + 1 + 1 + 1 → v.ownBlock ≠ some b := fun b hb e => by have := H.out.2.2.2.2.1.lt b e; omega
      have NV : (Value.slice (some ⟨g, 0, none⟩) zs.length cap1).ownBlock ≠ some (w.heap.size + 1 + 1) := fun e => by have := HV.out.lt _ e; omega
      have E5 : Hid (Ext w w4) := eonly (OwnL.app_below (etr H.out.1 E4.out) (etr H.out.1 E4.out).size (fun b hb => by have := H.out.2.2.2.2.1.lt b hb; omega) HW.out) HN4 (by omega)
      have L5 : Hid (LayAt w4 w.heap.size L) := ((H.out.2.1.keep E4.out).grown HW.out (NB _ (by omega))).only HN4 (by omega)
      have Z5 : Hid (Own w4 (w.heap.size + 1) [.slice none 0 0, .slice none 0 0, .slice none 0 0]) := ((H.out.2.2.1.keep E4.out).grown HW.out (NB _ (by omega))).only HN4 (by omega)
      have V5 : Hid (OwnL w4 (w.heap.size + 1 + 1 + 1) 9 1 Strc (.slice (some ⟨g, 0, none⟩) zs.length cap1) zs) := HV.out.only HN4 NV
      have F5 : Hid (zs.length ≤ k + 1 ∧ ∀ (i : Nat) x, zs[i]? = some x → x.size ≤ maxLen) := by
        rw [HZS.out]; exact ⟨by simp; omega, fine_snoc H.out.2.2.2.2.2.2.1 HX.out⟩
      have K0 : Hid (Rd w4 A0 1 Strc L.secs ∧ ∀ a, A0 = some a → a.block < w4.heap.size ∧ a.block ≠ w.heap.size + 1 + 1 ∧ (Value.slice (some ⟨g, 0, none⟩) zs.length cap1).ownBlock ≠ some a.block) :=
        ⟨((H.out.2.2.2.2.2.2.2.1.keep E4.out).grown HW.out (fun a ha => (H.out.2.2.2.2.2.2.2.2 a ha).2.2)).only HN4 (fun a ha => (H.out.2.2.2.2.2.2.2.2 a ha).2.1), fun a ha => ⟨by rw [HN4.size]; exact Nat.lt_of_lt_of_le (Nat.lt_of_lt_of_le (H.out.2.2.2.2.2.2.2.2 a ha).1 E4.out.size) HW.out.size, (H.out.2.2.2.2.2.2.2.2 a ha).2.1, fun e => by
          rcases HO3.out with h | h
          · rw [h] at e; exact (H.out.2.2.2.2.2.2.2.2 a ha).2.2 e
          · rw [h] at e; injection e with e; have := (H.out.2.2.2.2.2.2.2.2 a ha).1; have := E4.out.size; omega⟩⟩
      have O5 := Lib.hid HO4
      clear hw4 HO4 HN4 NB NV p0 p1 n0 n1 n2 n3 n4
      go_roundg (L.els.length - (k + 1))
      case measure => have := HG.out; omega
      case rel => exact ⟨k + 1, _, zs, by go_num, by omega, rfl, E5.out, L5.out, Z5.out, O5.out, V5.out, F5.out.1, F5.out.2, K0.out⟩
    · obtain ⟨A1, c1, rfl, hr1, hm1, hg1⟩ := OwnL.rdn Strc_len H.out.2.2.2.2.1
      obtain ⟨xs1, hxs1⟩ : ∃ xs1, xs1 = ys := ⟨_, rfl⟩
      subst hxs1
      have H1 : Hid (Ext w wr ∧ LayAt wr w.heap.size L ∧ Own wr (w.heap.size + 1) [.slice none 0 0, .slice none 0 0, .slice none 0 0] ∧ Own wr (w.heap.size + 1 + 1) [.slice A0 L.secs.length c0, .slice A1 xs1.length c1, .slice none 0 0] ∧ Rd wr A0 1 Strc L.secs ∧ (∀ a, A0 = some a → a.block < wr.heap.size ∧ a.block ≠ w.heap.size + 1 + 1) ∧ Rd wr A1 1 Strc xs1 ∧ (∀ a, A1 = some a → a.block < wr.heap.size ∧ a.block ≠ w.heap.size + 1 + 1)) :=
        ⟨H.out.1, H.out.2.1, H.out.2.2.1, H.out.2.2.2.1, H.out.2.2.2.2.2.2.2.1, fun a ha => ⟨(H.out.2.2.2.2.2.2.2.2 a ha).1, (H.out.2.2.2.2.2.2.2.2 a ha).2.1⟩, hr1, fun a ha => ⟨by subst ha; exact (H.out.2.2.2.2.1.lt a.block rfl).2, by have := hg1 a ha; omega⟩⟩
      have HF1 : Hid (Fine xs1) := ⟨by have := H.out.2.2.2.2.2.1; omega, H.out.2.2.2.2.2.2.1⟩
      have HBA : Hid ((∀ a, A0 = some a → a.block ≠ w.heap.size + 1) ∧ ∀ a, A1 = some a → a.block ≠ w.heap.size + 1) := ⟨HB0.out, fun a ha => by have := hg1 a ha; omega⟩
      clear hr1 hm1 hg1
      obtain ⟨l0, a0, a1, a2, a3, a4, a5⟩ := layAt_cells H1.out.2.1
      go_wp2
      clear l0 a0 a1 a2 a3 a4 a5
      go_loopg [33] L.sgs.length (fun g ix wr => ∃ (k : Nat) (v : Value) (ys : List ByteArray), ix = .int .i64 k ∧ k ≤ L.sgs.length ∧ g = L.sgs.length - k ∧ Hid (Ext w wr ∧ LayAt wr w.heap.size L ∧ Own wr (w.heap.size + 1) [.slice none 0 0, .slice none 0 0, .slice none 0 0] ∧ Own wr (w.heap.size + 1 + 1) [.slice A0 L.secs.length c0, .slice A1 xs1.length c1, v] ∧ OwnL wr (w.heap.size + 1 + 1 + 1) 9 1 Strc v ys ∧ ys.length ≤ k ∧ (∀ (i : Nat) x, ys[i]? = some x → x.size ≤ maxLen) ∧ (Rd wr A0 1 Strc L.secs ∧ ∀ a, A0 = some a → a.block < wr.heap.size ∧ a.block ≠ w.heap.size + 1 + 1 ∧ v.ownBlock ≠ some a.block) ∧ (Rd wr A1 1 Strc xs1 ∧ ∀ a, A1 = some a → a.block < wr.heap.size ∧ a.block ≠ w.heap.size + 1 + 1 ∧ v.ownBlock ≠ some a.block)))
      case atStart => exact ⟨0, .slice none 0 0, [], rfl, by omega, by omega, H1.out.1, H1.out.2.1, H1.out.2.2.1, H1.out.2.2.2.1, OwnL.nil, by simp, fun i x h => by simp at h, ⟨H1.out.2.2.2.2.1, fun a ha => ⟨(H1.out.2.2.2.2.2.1 a ha).1, (H1.out.2.2.2.2.2.1 a ha).2, by simp [Value.ownBlock]⟩⟩, H1.out.2.2.2.2.2.2.1, fun a ha => ⟨(H1.out.2.2.2.2.2.2.2 a ha).1, (H1.out.2.2.2.2.2.2.2 a ha).2, by simp [Value.ownBlock]⟩⟩
      case round =>
        obtain ⟨k, v, ys, rfl, hk, hg, H⟩ := hrel
        have HG := Lib.hid hg
        clear hg
        by_cases hlt : k < L.sgs.length
        · obtain ⟨b, off, x, hA, hs, hbs, c2, c3, c4, c5⟩ := rd_sg HL.out.hG H.out.1 hlt
          have HX : Hid (x.name.size ≤ maxLen) := HIG.out k x hs
          have n0 := H.out.2.2.2.1.2.1 2 _ rfl
          have n1 := H.out.2.2.2.1.2.2 2
          have n2 := H.out.2.2.2.1.1
          have n3 := lt_up1 n2
          have n4 := lt_up1 n3
          have E4 : Hid (Ext wr ((wr.alloc (.cells #[.string x.name, .int .i64 x.el, .int .i64 x.side, .int .i64 x.ovl] 69)).alloc (.cells #[.string x.name] 9))) := eal (eal (Ext.refl _) _) _
          have HY : Hid (CellsAt ((wr.alloc (.cells #[.string x.name, .int .i64 x.el, .int .i64 x.side, .int .i64 x.ovl] 69)).alloc (.cells #[.string x.name] 9)) (wr.heap.size + 1) (Strc x.name)) := CellsAt.new (by simp)
          have HAA := Lib.hid hA
          have hyl := H.out.2.2.2.2.2.1
          rw [hA]
          clear hs hA
          go_wp2_with (at_builtin
                       refine wp_app1 Strc_len Strc_one Tryd.underlying22 HII.out hz0 hz1 hz2 rfl (by decide) rfl rfl rfl (H.out.2.2.2.2.1.keep E4.out) x.name (wr.heap.size + 1) (by simp [go_sem]) HY.out (by omega) (by unfold maxLen; omega) (by have := E4.out.size; have := H.out.1.size; omega) ?_
                       intro v1 w1 h1 h2 h3
                       obtain ⟨zs, hzs⟩ : ∃ zs, zs = ys ++ [x.name] := ⟨_, rfl⟩
                       rw [← hzs] at h1
                       have HZS := Lib.hid hzs
                       obtain ⟨g, cap1, rfl, hcap, hgb, hown⟩ := h1.form (by rw [hzs]; simp)
                       have HV := Lib.hid h1
                       have HW := Lib.hid h2
                       have HO3 := Lib.hid h3
                       have HO1 : Own w1 (w.heap.size + 1 + 1) _ := (H.out.2.2.2.1.keep E4.out).grown h2 (fun e => by have := H.out.2.2.2.2.1.lt _ e; omega)
                       have HO := Lib.hid HO1
                       have p0 := HO1.2.1 2 _ rfl
                       have p1 := HO1.2.2 2
                       clear h1 h2 h3 HO1 hcap hgb hown hzs)
          rw [← HAA.out]
          obtain ⟨w4, hw4, HO4, HN4⟩ := setO 2 (.slice (some ⟨g, 0, none⟩) zs.length cap1) HO.out (by simp)
          rw [← hw4]
          have NB : ∀ b, b < w.heap.size + 1 + 1 + 1 → v.ownBlock ≠ some b := fun b hb e => by have := H.out.2.2.2.2.1.lt b e; omega
          have NV : (Value.slice (some ⟨g, 0, none⟩) zs.length cap1).ownBlock ≠ some (w.heap.size + 1 + 1) := fun e => by have := HV.out.lt _ e; omega
          have E5 : Hid (Ext w w4) := eonly (OwnL.app_below (etr H.out.1 E4.out) (etr H.out.1 E4.out).size (fun b hb => by have := H.out.2.2.2.2.1.lt b hb; omega) HW.out) HN4 (by omega)
          have L5 : Hid (LayAt w4 w.heap.size L) := ((H.out.2.1.keep E4.out).grown HW.out (NB _ (by omega))).only HN4 (by omega)
          have Z5 : Hid (Own w4 (w.heap.size + 1) [.slice none 0 0, .slice none 0 0, .slice none 0 0]) := ((H.out.2.2.1.keep E4.out).grown HW.out (NB _ (by omega))).only HN4 (by omega)
          have V5 : Hid (OwnL w4 (w.heap.size + 1 + 1 + 1) 9 1 Strc (.slice (some ⟨g, 0, none⟩) zs.length cap1) zs) := HV.out.only HN4 NV
          have F5 : Hid (zs.length ≤ k + 1 ∧ ∀ (i : Nat) x, zs[i]? = some x → x.size ≤ maxLen) := by
            rw [HZS.out]; exact ⟨by simp; omega, fine_snoc H.out.2.2.2.2.2.2.1 HX.out⟩
          have K0 : Hid (Rd w4 A0 1 Strc L.secs ∧ ∀ a, A0 = some a → a.block < w4.heap.size ∧ a.block ≠ w.heap.size + 1 + 1 ∧ (Value.slice (some ⟨g, 0, none⟩) zs.length cap1).ownBlock ≠ some a.block) :=
            ⟨((H.out.2.2.2.2.2.2.2.1.1.keep E4.out).grown HW.out (fun a ha => (H.out.2.2.2.2.2.2.2.1.2 a ha).2.2)).only HN4 (fun a ha => (H.out.2.2.2.2.2.2.2.1.2 a ha).2.1), fun a ha => ⟨by rw [HN4.size]; exact Nat.lt_of_lt_of_le (Nat.lt_of_lt_of_le (H.out.2.2.2.2.2.2.2.1.2 a ha).1 E4.out.size) HW.out.size, (H.out.2.2.2.2.2.2.2.1.2 a ha).2.1, fun e => by
              rcases HO3.out with h | h
              · rw [h] at e; exact (H.out.2.2.2.2.2.2.2.1.2 a ha).2.2 e
              · rw [h] at e; injection e with e; have := (H.out.2.2.2.2.2.2.2.1.2 a ha).1; have := E4.out.size; omega⟩⟩
          have K1 : Hid (Rd w4 A1 1 Strc xs1 ∧ ∀ a, A1 = some a → a.block < w4.heap.size ∧ a.block ≠ w.heap.size + 1 + 1 ∧ (Value.slice (some ⟨g, 0, none⟩) zs.length cap1).ownBlock ≠ some a.block) :=
            ⟨((H.out.2.2.2.2.2.2.2.2.1.keep E4.out).grown HW.out (fun a ha => (H.out.2.2.2.2.2.2.2.2.2 a ha).2.2)).only HN4 (fun a ha => (H.out.2.2.2.2.2.2.2.2.2 a ha).2.1), fun a ha => ⟨by rw [HN4.size]; exact Nat.lt_of_lt_of_le (Nat.lt_of_lt_of_le (H.out.2.2.2.2.2.2.2.2.2 a ha).1 E4.out.size) HW.out.size, (H.out.2.2.2.2.2.2.2.2.2 a ha).2.1, fun e => by
              rcases HO3.out with h | h
              · rw [h] at e; exact (H.out.2.2.2.2.2.2.2.2.2 a ha).2.2 e
              · rw [h] at e; injection e with e; have := (H.out.2.2.2.2.2.2.2.2.2 a ha).1; have := E4.out.size; omega⟩⟩
          have O5 := Lib.hid HO4
          clear hw4 HO4 HN4 NB NV p0 p1 n0 n1 n2 n3 n4
          go_roundg (L.sgs.length - (k + 1))
          case measure => have := HG.out; omega
          case rel => exact ⟨k + 1, _, zs, by go_num, by omega, rfl, E5.out, L5.out, Z5.out, O5.out, V5.out, F5.out.1, F5.out.2, K0.out, K1.out⟩

        · have n0 := H.out.2.2.2.1.2.1 0 _ rfl
          have n1 := H.out.2.2.2.1.2.1 1 _ rfl
          obtain ⟨A2, c2, rfl, hr2, hm2, hg2⟩ := OwnL.rdn Strc_len H.out.2.2.2.2.1
          have n2 := H.out.2.2.2.1.2.1 2 _ rfl
          have n3 := H.out.2.2.2.1.1
          have m0 := H.out.2.2.1.2.1 0 _ rfl
          have m1 := H.out.2.2.1.2.1 1 _ rfl
          have m2 := H.out.2.2.1.2.1 2 _ rfl
          have m3 := H.out.2.2.1.2.2 0
          have m4 := H.out.2.2.1.2.2 1
          have m5 := H.out.2.2.1.2.2 2
          have m6 := H.out.2.2.1.1
          have HR2 := Lib.hid hr2
          have HG2 := Lib.hid hg2
          clear hr2 hm2 hg2
          go_wp2
          obtain ⟨w8, hw8, HO8, HN8⟩ := set3' (.slice A0 L.secs.length c0) (.slice A1 xs1.length c1) (.slice A2 ys.length c2) H.out.2.2.1 rfl
          rw [← hw8]
          have r0 := HO8.2.1 0 _ rfl
          have r1 := HO8.2.1 1 _ rfl
          have r2 := HO8.2.1 2 _ rfl
          refine bodyPost_ret (v := .agg #[.slice A0 L.secs.length c0, .slice A1 xs1.length c1, .slice A2 ys.length c2]) (by simp [results, Tryd.results26, go_sem, r0, r1, r2]) rfl ⟨A0, c0, L.secs, A1, c1, xs1, A2, c2, ys, rfl, H.out.2.2.2.2.2.2.2.1.1.only HN8 (fun a ha => ?_), H.out.2.2.2.2.2.2.2.2.1.only HN8 (fun a ha => ?_), HR2.out.only HN8 (fun a ha => by have := HG2.out a ha; omega), ⟨hS, fun i x h => HL.out.iS i x h⟩, HF1.out, ⟨by have := H.out.2.2.2.2.2.1; omega, H.out.2.2.2.2.2.2.1⟩, eonly H.out.1 HN8 (by omega)⟩
          · exact HBA.out.1 a ha
          · exact HBA.out.2 a ha
end Go.Proofs.YtoodehilgogomaaDoor
