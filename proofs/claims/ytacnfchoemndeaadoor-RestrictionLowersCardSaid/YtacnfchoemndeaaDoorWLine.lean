/- Walk of signallinglaw07.Line: the layout of the examples. -/
import Derived.Test.YtacnfchoemndeaaDoorTLay
import Derived.Deep.Cut
set_option linter.unusedVariables false
set_option linter.unusedSimpArgs false
set_option maxRecDepth 100000
namespace Go.Proofs.YtacnfchoemndeaaDoor
open Go.ChangeShapes Go.WideShapes Go.ChangeAt Go.RowKit
open Sg

def nmE : List ByteArray := [⟨#[97]⟩, ⟨#[98]⟩, ⟨#[99]⟩]
def lineE : List Elm := [⟨⟨#[97]⟩, 1, 20000, 0, 3000, 0, 0⟩, ⟨⟨#[98]⟩, 1, 20000, 0, 3000, 0, 1⟩, ⟨⟨#[99]⟩, 1, 20000, 0, 3000, 0, 2⟩]
def lineS : List ByteArray := [⟨#[120]⟩, ⟨#[121]⟩, ⟨#[122]⟩]
def lineJ : List Jnt := [⟨0, 1, 1, 0⟩, ⟨1, 1, 2, 0⟩]
def lineG : List Sgl := [⟨⟨#[115, 49]⟩, 0, 1, 0⟩, ⟨⟨#[115, 50]⟩, 1, 1, 0⟩]
theorem inf_El : (Tryd.prog.info? 60).map (fun i => (i.zero, i.size, i.bytes)) = some (some (.agg #[.string ⟨#[]⟩, .int .i64 0, .int .i64 0, .int .i64 0, .int .i64 0, .int .i64 0, .int .i64 0]), 7, 64) := by kernel_rfl
theorem setO {w : World} {b : Nat} {us : List Value} (o : Nat) (v : Value) (h : Own w b us) (ho : o < us.length) : ∃ w', w' = w.setCell ⟨b, o, none⟩ v ∧ Own w' b (us.set o v) ∧ Only b w w' := ⟨_, rfl, h.set o ho v, Only.set _ _ _ _⟩
theorem Own.grown {w w' : World} {b : Nat} {vs : List Value} {row : Option Nat} (h : Own w b vs) (hg : w.grownBy w' row) (hb : row ≠ some b) : Own w' b vs :=
  ⟨(h.cells.grown hg hb).1, (h.cells.grown hg hb).2, fun j => (World.frozen?_of_block (w := w) (a := ⟨b, j, none⟩) (hg.block b h.1 (fun e => hb e.symm))).trans (h.2.2 j)⟩
theorem set6 {w : World} {b : Nat} {us : List Value} (v0 v1 v2 v3 v4 v5 : Value) (h : Own w b us) (h6 : us.length = 6) : ∃ w', w' = ((((((w.setCell ⟨b, 0, none⟩ v0).setCell ⟨b, 1, none⟩ v1).setCell ⟨b, 2, none⟩ v2).setCell ⟨b, 3, none⟩ v3).setCell ⟨b, 4, none⟩ v4).setCell ⟨b, 5, none⟩ v5) ∧ Own w' b [v0, v1, v2, v3, v4, v5] ∧ Only b w w' := by
  refine ⟨_, rfl, ?_, ((((Only.set _ _ _ _).trans (Only.set _ _ _ _)).trans (Only.set _ _ _ _)).trans (Only.set _ _ _ _)).trans (Only.set _ _ _ _) |>.trans (Only.set _ _ _ _)⟩
  match us, h6 with
  | [u0, u1, u2, u3, u4, u5], _ => exact (((((h.set 0 (by simp) v0).set 1 (by simp) v1).set 2 (by simp) v2).set 3 (by simp) v3).set 4 (by simp) v4).set 5 (by simp) v5
theorem line_step {k : Nat} (h : k < 3) : ∃ x, nmE[k]? = some x ∧ lineE.take (k + 1) = lineE.take k ++ [⟨x, 1, 20000, 0, 3000, 0, (k : Int)⟩] := by
  have key : k = 0 ∨ k = 1 ∨ k = 2 := by omega
  rcases key with rfl | rfl | rfl <;> exact ⟨_, rfl, rfl⟩
set_option maxHeartbeats 8000000 in
theorem line_any (w : World) : Calls Tryd.prog 26 #[] w fun e w' => ∃ L : Lay, e = .returned (.agg #[.string L.name, .slice L.aS L.secs.length L.cS, .slice L.aE L.els.length L.cE, .slice L.aJ L.jts.length L.cJ, .slice L.aG L.sgs.length L.cG, .slice L.aB L.bals.length L.cB]) ∧ LayOk w' L ∧ L.els = lineE ∧ L.jts = lineJ ∧ Below w.heap.size w w' := by
  obtain ⟨i0, hi, hz0, hz1, hz2⟩ := info_parts inf_El
  have HII := Lib.hid hi
  clear hi
  go_enter Tryd.func26, Tryd.ntmps26
  go_wp2
  go_loopg [8] 3 (fun g ix wr => ∃ (k : Nat) (v : Value), ix = .int .i64 k ∧ k ≤ 3 ∧ g = 3 - k ∧ Hid (Ext w wr ∧ Own wr (w.heap.size + 1 + 1) [.string ⟨#[108, 105, 110, 101]⟩, .slice (some ⟨w.heap.size + 1, 0, none⟩) 3 3, v, .slice none 0 0, .slice none 0 0, .slice none 0 0] ∧ Own wr w.heap.size [.string ⟨#[]⟩, .slice none 0 0, .slice none 0 0, .slice none 0 0, .slice none 0 0, .slice none 0 0] ∧ CellsAt wr (w.heap.size + 1) (lineS.map Value.string) ∧ CellsAt wr (w.heap.size + 1 + 1 + 1) (nmE.map Value.string) ∧ OwnL wr (w.heap.size + 1 + 1 + 1 + 1) 60 7 Elc v (lineE.take k)))
  case atStart =>
    refine ⟨0, .slice none 0 0, rfl, by omega, by omega, eal (eal (eal (eal (Ext.refl _) _) _) _) _, ?_, ?_, ?_, ?_, OwnL.nil⟩
    · exact Own.keep (Own.new (by simp)) (eal (Ext.refl _) _)
    · exact Own.keep (Own.new rfl) (eal (eal (eal (Ext.refl _) _) _) _)
    · exact CellsAt.keep (CellsAt.new (by simp)) (eal (eal (Ext.refl _) _) _)
    · exact CellsAt.new (by simp)
  case round =>
    obtain ⟨k, v, rfl, hk, hg, H⟩ := hrel
    have HG := Lib.hid hg
    clear hg
    by_cases hlt : k < 3
    · obtain ⟨x, hx, ht⟩ := line_step hlt
      obtain ⟨ys, hys⟩ : ∃ ys, ys = lineE.take (k + 1) := ⟨_, rfl⟩
      rw [← hys] at ht
      have HX := Lib.hid ht
      have HYS := Lib.hid hys
      clear hys
      have n0 := H.out.2.1.2.1 2 _ rfl
      have n1 := H.out.2.1.2.2 2
      have n2 := H.out.2.1.1
      have m0 := H.out.2.2.2.2.1.2 k (.string x) (by rw [List.getElem?_map, hx]; rfl)
      have m1 := H.out.2.2.2.2.1.1
      have HY : Hid (CellsAt (wr.alloc (.cells #[.string x, .int .i64 1, .int .i64 20000, .int .i64 0, .int .i64 3000, .int .i64 0, .int .i64 k] 60)) wr.heap.size (Elc ⟨x, 1, 20000, 0, 3000, 0, (k : Int)⟩)) := CellsAt.new rfl
      clear hx ht
      have hi := HII.out
      go_wp2_with (at_builtin
                   refine wp_app1 Elc_len Elc_one Tryd.underlying23 hi hz0 hz1 hz2 rfl (by decide) rfl rfl rfl (H.out.2.2.2.2.2.keep (eal (Ext.refl _) _)) ⟨x, 1, 20000, 0, 3000, 0, (k : Int)⟩ wr.heap.size (by simp [go_sem]) HY.out (by simp; omega) (by simp; unfold maxLen; omega) (by simp; omega) ?_
                   intro v1 w1 h1 h2 h3
                   have HW := Lib.hid h2
                   rw [← HX.out] at h1
                   obtain ⟨g, cap1, rfl, hcap, hgb, hown⟩ := h1.form (by rw [HX.out]; simp)
                   have HV := Lib.hid h1
                   have HO1 : Own w1 (w.heap.size + 1 + 1) _ := (H.out.2.1.keep (eal (Ext.refl _) _)).grown h2 (fun e => by have := H.out.2.2.2.2.2.lt _ e; omega)
                   have HO := Lib.hid HO1
                   have p0 := HO1.2.1 2 _ rfl
                   have p1 := HO1.2.2 2
                   clear h1 h2 h3 HO1 hcap hgb hown)
      obtain ⟨w4, hw4, HO4, HN4⟩ := setO 2 (.slice (some ⟨g, 0, none⟩) ys.length cap1) HO.out (by simp)
      rw [← hw4]
      have E1 : Hid (Ext w w1) := OwnL.app_below (eal H.out.1 _) (by have := H.out.1.size; simp; omega) (fun b hb => by have := H.out.2.2.2.2.2.lt b hb; omega) HW.out
      have NB : ∀ b, b < w.heap.size + 1 + 1 + 1 + 1 → v.ownBlock ≠ some b := fun b hb e => by have := H.out.2.2.2.2.2.lt b e; omega
      have NV : (Value.slice (some ⟨g, 0, none⟩) ys.length cap1).ownBlock ≠ some (w.heap.size + 1 + 1) := fun e => by have := HV.out.lt _ e; omega
      have K1 : Hid (Ext w w4 ∧ Own w4 w.heap.size [.string ⟨#[]⟩, .slice none 0 0, .slice none 0 0, .slice none 0 0, .slice none 0 0, .slice none 0 0] ∧ CellsAt w4 (w.heap.size + 1) (lineS.map Value.string) ∧ CellsAt w4 (w.heap.size + 1 + 1 + 1) (nmE.map Value.string) ∧ OwnL w4 (w.heap.size + 1 + 1 + 1 + 1) 60 7 Elc (.slice (some ⟨g, 0, none⟩) ys.length cap1) ys) :=
        ⟨eonly E1.out HN4 (by omega), ((H.out.2.2.1.keep (eal (Ext.refl _) _)).grown HW.out (NB _ (by omega))).only HN4 (by omega), ((H.out.2.2.2.1.keep (eal (Ext.refl _) _)).grown HW.out (NB _ (by omega))).only HN4 (by omega), ((H.out.2.2.2.2.1.keep (eal (Ext.refl _) _)).grown HW.out (NB _ (by omega))).only HN4 (by omega), HV.out.only HN4 NV⟩
      have HO5 := Lib.hid HO4
      clear hw4 HO4 HN4 NB NV p0 p1 n0 n1 n2 m0 m1
      go_roundg (3 - (k + 1))
      case measure => have := HG.out; omega
      case rel => exact ⟨k + 1, _, by go_num, by omega, rfl, K1.out.1, HO5.out, K1.out.2.1, K1.out.2.2.1, K1.out.2.2.2.1, HYS.out ▸ K1.out.2.2.2.2⟩
    · have e : k = 3 := by omega
      subst e
      have n3 := H.out.2.1.2.1 3 _ rfl
      have n1 := H.out.2.1.2.2 3
      have n2 := H.out.2.1.1
      go_upto_region 8 with (fail)
      obtain ⟨w4, hw4, HO4, HN4⟩ := setO 3 (.slice (some ⟨wr.heap.size, 0, none⟩) 2 2) H.out.2.1 (by simp)
      rw [← hw4]
      have hz4 : wr.heap.size = w4.heap.size := HN4.size.symm
      rw [hz4] at HO4 ⊢
      have NV : ∀ b, b < w.heap.size + 1 + 1 + 1 + 1 → v.ownBlock ≠ some b := fun b hb e => by have := H.out.2.2.2.2.2.lt b e; omega
      obtain ⟨w5, hw5⟩ : ∃ w5, w5 = w4.alloc (.cells #[.int .i64 0, .int .i64 1, .int .i64 1, .int .i64 0, .int .i64 1, .int .i64 1, .int .i64 2, .int .i64 0] 82) := ⟨_, rfl⟩
      rw [← hw5]
      have J5 : Hid (CellsAt w5 w4.heap.size (lineJ.flatMap Jtc)) := hw5 ▸ CellsAt.new rfl
      have E5 : Hid (Ext w w5) := hw5 ▸ eal (eonly H.out.1 HN4 (by omega)) _
      have X5 : Hid (Ext w4 w5) := hw5 ▸ eal (Ext.refl _) _
      have O5 : Hid (Own w5 (w.heap.size + 1 + 1) _) := HO4.keep X5.out
      have Z5 : Hid (Own w5 w.heap.size _) := (H.out.2.2.1.only HN4 (by omega)).keep X5.out
      have S5 : Hid (CellsAt w5 (w.heap.size + 1) _) := (H.out.2.2.2.1.only HN4 (by omega)).keep X5.out
      have V5 : Hid (OwnL w5 (w.heap.size + 1 + 1 + 1 + 1) 60 7 Elc v lineE) := (H.out.2.2.2.2.2.only HN4 (NV _ (by omega))).keep X5.out
      have n4 : Hid (w.heap.size + 1 + 1 < w4.heap.size) := by show _ < _; omega
      clear hw5 hw4 HO4 HN4 hz4 n1 n2 n3
      have n3 := O5.out.2.1 4 _ rfl
      have n1 := O5.out.2.2 4
      have n2 := O5.out.1
      go_upto_region 9 with (fail)
      obtain ⟨w6, hw6, HO6, HN6⟩ := setO 4 (.slice (some ⟨w5.heap.size, 0, none⟩) 2 2) O5.out (by simp)
      rw [← hw6]
      have hz6 : w5.heap.size = w6.heap.size := HN6.size.symm
      rw [hz6] at HO6 ⊢
      obtain ⟨w7, hw7⟩ : ∃ w7, w7 = w6.alloc (.cells #[.string ⟨#[115, 49]⟩, .int .i64 0, .int .i64 1, .int .i64 0, .string ⟨#[115, 50]⟩, .int .i64 1, .int .i64 1, .int .i64 0] 84) := ⟨_, rfl⟩
      rw [← hw7]
      have X7 : Hid (Ext w6 w7) := hw7 ▸ eal (Ext.refl _) _
      have G7 : Hid (CellsAt w7 w6.heap.size (lineG.flatMap Sic)) := hw7 ▸ CellsAt.new rfl
      have J7 : Hid (CellsAt w7 w4.heap.size (lineJ.flatMap Jtc)) := (J5.out.only HN6 (by have := n4.out; omega)).keep X7.out
      have E7 : Hid (Ext w w7) := etr (eonly E5.out HN6 (by omega)) X7.out
      have O7 : Hid (Own w7 (w.heap.size + 1 + 1) _) := HO6.keep X7.out
      have Z7 : Hid (Own w7 w.heap.size _) := (Z5.out.only HN6 (by omega)).keep X7.out
      have S7 : Hid (CellsAt w7 (w.heap.size + 1) _) := (S5.out.only HN6 (by omega)).keep X7.out
      have V7 : Hid (OwnL w7 (w.heap.size + 1 + 1 + 1 + 1) 60 7 Elc v lineE) := (V5.out.only HN6 (NV _ (by omega))).keep X7.out
      have n5 : Hid (w.heap.size + 1 + 1 < w6.heap.size) := by have h4 := n4.out; have := X5.out.size; show _ < _; omega
      clear hw6 hw7 HO6 HN6 hz6 n1 n2 n3
      obtain ⟨Ae, ce, rfl, he, hme⟩ := V7.out.rd Elc_len
      have m0 := O7.out.2.1 0 _ rfl
      have m1 := O7.out.2.1 1 _ rfl
      have m2 := O7.out.2.1 2 _ rfl
      have m3 := O7.out.2.1 3 _ rfl
      have m4 := O7.out.2.1 4 _ rfl
      have m5 := O7.out.2.1 5 _ rfl
      have m6 := O7.out.1
      have z0 := Z7.out.2.1 0 _ rfl
      have z1 := Z7.out.2.1 1 _ rfl
      have z2 := Z7.out.2.1 2 _ rfl
      have z3 := Z7.out.2.1 3 _ rfl
      have z4 := Z7.out.2.1 4 _ rfl
      have z5 := Z7.out.2.1 5 _ rfl
      have z6 := Z7.out.1
      have y0 := Z7.out.2.2 0
      have y1 := Z7.out.2.2 1
      have y2 := Z7.out.2.2 2
      have y3 := Z7.out.2.2 3
      have y4 := Z7.out.2.2 4
      have y5 := Z7.out.2.2 5
      clear he hme
      go_wp2
      obtain ⟨w8, hw8, HO8, HN8⟩ := set6 (.string ⟨#[108, 105, 110, 101]⟩) (.slice (some ⟨w.heap.size + 1, 0, none⟩) 3 3) (.slice Ae lineE.length ce) (.slice (some ⟨w4.heap.size, 0, none⟩) 2 2) (.slice (some ⟨w6.heap.size, 0, none⟩) 2 2) (.slice none 0 0) Z7.out rfl
      rw [← hw8]
      obtain ⟨_, _, hv, hr, hmm⟩ := (V7.out.only HN8 (NV _ (by omega))).rd Elc_len
      injection hv with hv1 hv2 hv3
      subst hv1
      have r0 := HO8.2.1 0 _ rfl
      have r1 := HO8.2.1 1 _ rfl
      have r2 := HO8.2.1 2 _ rfl
      have r3 := HO8.2.1 3 _ rfl
      have r4 := HO8.2.1 4 _ rfl
      have r5 := HO8.2.1 5 _ rfl
      have h4 := n4.out
      have h5 := n5.out
      refine bodyPost_ret (v := .agg #[.string ⟨#[108, 105, 110, 101]⟩, .slice (some ⟨w.heap.size + 1, 0, none⟩) 3 3, .slice Ae lineE.length ce, .slice (some ⟨w4.heap.size, 0, none⟩) 2 2, .slice (some ⟨w6.heap.size, 0, none⟩) 2 2, .slice none 0 0]) (by simp [results, Tryd.results26, go_sem, r0, r1, r2, r3, r4, r5]) rfl ⟨⟨⟨#[108, 105, 110, 101]⟩, some ⟨w.heap.size + 1, 0, none⟩, lineS, 3, Ae, lineE, ce, some ⟨w4.heap.size, 0, none⟩, lineJ, 2, some ⟨w6.heap.size, 0, none⟩, lineG, 2, none, [], 0⟩, rfl, ?_, rfl, rfl, eonly E7.out HN8 (by omega)⟩
      exact {
        hN := by show (4 : Nat) ≤ maxLen; unfold maxLen; decide
        hS := rd_cells (enc := Strc) (xs := lineS) Strc_len (S7.out.only HN8 (by omega))
        hE := hr
        hJ := rd_cells (enc := Jtc) Jtc_len (J7.out.only HN8 (by omega))
        hG := rd_cells (enc := Sic) Sic_len (G7.out.only HN8 (by omega))
        hB := Rd.nil
        lS := by show (3 : Nat) ≤ maxLen; unfold maxLen; decide
        lE := by show (3 : Nat) ≤ maxLen; unfold maxLen; decide
        lJ := by show (2 : Nat) ≤ maxLen; unfold maxLen; decide
        lG := by show (2 : Nat) ≤ maxLen; unfold maxLen; decide
        lB := by show (0 : Nat) ≤ maxLen; unfold maxLen; decide
        iS := fun i x h => by have := List.mem_of_getElem? h; simp [lineS] at this; rcases this with rfl | rfl | rfl <;> (unfold maxLen; decide)
        iE := fun i x h => by have := List.mem_of_getElem? h; simp [lineE] at this; rcases this with rfl | rfl | rfl <;> (unfold ElmI I64 maxLen; decide)
        iJ := fun i x h => by have := List.mem_of_getElem? h; simp [lineJ] at this; rcases this with rfl | rfl <;> (unfold JntI I64; decide)
        iG := fun i x h => by have := List.mem_of_getElem? h; simp [lineG] at this; rcases this with rfl | rfl <;> (unfold SglI I64 maxLen; decide)
        iB := fun i x h => by simp at h }
end Go.Proofs.YtacnfchoemndeaaDoor
