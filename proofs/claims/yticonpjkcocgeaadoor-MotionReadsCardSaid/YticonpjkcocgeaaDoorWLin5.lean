/- Walk of signallinglaw51.line: the layout of the examples. -/
import Derived.Test.YticonpjkcocgeaaDoorWLays
import Derived.Test.YticonpjkcocgeaaDoorKAll
import Derived.Deep.Cut
set_option linter.unusedVariables false
set_option linter.unusedSimpArgs false
set_option maxRecDepth 100000
namespace Go.Proofs.YticonpjkcocgeaaDoor
open Go.ChangeShapes Go.WideShapes Go.ChangeAt Go.RowKit
open Sg

def nm5 : List ByteArray := [⟨#[97]⟩, ⟨#[98]⟩, ⟨#[99]⟩]
def line5E : List Elm := [⟨⟨#[97]⟩, 1, 20000, 0, 1000, 0, 0⟩, ⟨⟨#[98]⟩, 1, 20000, 0, 1000, 0, 1⟩, ⟨⟨#[99]⟩, 1, 20000, 0, 1000, 0, 2⟩]
def line5J : List Jnt := [⟨0, 1, 1, 0⟩, ⟨1, 1, 2, 0⟩]
def line5B : List Bls := [⟨8, 1, 50⟩, ⟨4, 0, 20000⟩]
theorem inf_El : (Tryd.prog.info? 79).map (fun i => (i.zero, i.size, i.bytes)) = some (some (.agg #[.string ⟨#[]⟩, .int .i64 0, .int .i64 0, .int .i64 0, .int .i64 0, .int .i64 0, .int .i64 0]), 7, 64) := by kernel_rfl
theorem inf_Nm : (Tryd.prog.info? 9).map (fun i => (i.zero, i.size, i.bytes)) = some (some (.string ⟨#[]⟩), 1, 16) := by kernel_rfl
theorem line5_step {k : Nat} (h : k < 3) : ∃ x, nm5[k]? = some x ∧ nm5.take (k + 1) = nm5.take k ++ [x] ∧ line5E.take (k + 1) = line5E.take k ++ [⟨x, 1, 20000, 0, 1000, 0, (k : Int)⟩] ∧
    ∀ w, (Instr.slice 9 (.string ⟨#[97, 98, 99]⟩) (some (.int .i64 (k : Int))) (some (.int .i64 ((k : Int) + 1))) none).run Tryd.prog w = .ok (.string x) w := by
  have key : k = 0 ∨ k = 1 ∨ k = 2 := by omega
  rcases key with rfl | rfl | rfl <;> exact ⟨_, rfl, rfl, rfl, fun w => by kernel_rfl⟩
theorem OwnL.grownO {α : Type} {w w' : World} {base : Nat} {e : TypeId} {k : Nat} {enc : α → List Value} {v : Value} {xs : List α} {row : Option Nat} (h : OwnL w base e k enc v xs) (hg : w.grownBy w' row) (hne : ∀ b, v.ownBlock = some b → row ≠ some b) : OwnL w' base e k enc v xs := by
  refine ⟨h.1, ?_⟩
  have hlt := h.lt
  rcases h.2 with h0 | ⟨g, cap, cur, rfl, h1, h2, h3⟩
  · exact .inl h0
  · exact .inr ⟨g, cap, cur, rfl, h1, by rw [hg.block g (hlt g rfl).2 (fun e => hne g rfl e.symm)]; exact h2, h3⟩
theorem set6 {w : World} {b : Nat} {us : List Value} (v0 v1 v2 v3 v4 v5 : Value) (h : Own w b us) (h6 : us.length = 6) : ∃ w', w' = ((((((w.setCell ⟨b, 0, none⟩ v0).setCell ⟨b, 1, none⟩ v1).setCell ⟨b, 2, none⟩ v2).setCell ⟨b, 3, none⟩ v3).setCell ⟨b, 4, none⟩ v4).setCell ⟨b, 5, none⟩ v5) ∧ Own w' b [v0, v1, v2, v3, v4, v5] ∧ Only b w w' := by
  refine ⟨_, rfl, ?_, ((((Only.set _ _ _ _).trans (Only.set _ _ _ _)).trans (Only.set _ _ _ _)).trans (Only.set _ _ _ _)).trans (Only.set _ _ _ _) |>.trans (Only.set _ _ _ _)⟩
  match us, h6 with
  | [u0, u1, u2, u3, u4, u5], _ => exact (((((h.set 0 (by simp) v0).set 1 (by simp) v1).set 2 (by simp) v2).set 3 (by simp) v3).set 4 (by simp) v4).set 5 (by simp) v5
/-- What holds at the beginning of a round. -/
structure Lin5 (n : Nat) (wr : World) (k : Nat) (vS vE : Value) : Prop where
  box : Own wr (n + 1 + 1) [.string ⟨#[108, 105, 110, 101]⟩, vS, vE, .slice none 0 0, .slice none 0 0, .slice (some ⟨n + 1, 0, none⟩) 2 2]
  zero : Own wr n [.string ⟨#[]⟩, .slice none 0 0, .slice none 0 0, .slice none 0 0, .slice none 0 0, .slice none 0 0]
  bals : CellsAt wr (n + 1) (line5B.flatMap Bac)
  secs : OwnL wr (n + 1 + 1 + 1) 9 1 Strc vS (nm5.take k)
  els : OwnL wr (n + 1 + 1 + 1) 79 7 Elc vE (line5E.take k)
  apart : ∀ b, vS.ownBlock = some b → vE.ownBlock ≠ some b
set_option maxHeartbeats 8000000 in
theorem line5_any (w : World) : Calls Tryd.prog 26 #[] w fun e w' => ∃ L : Lay, e = .returned (.agg #[.string L.name, .slice L.aS L.secs.length L.cS, .slice L.aE L.els.length L.cE, .slice L.aJ L.jts.length L.cJ, .slice L.aG L.sgs.length L.cG, .slice L.aB L.bals.length L.cB]) ∧ LayOk w' L ∧ L.els = line5E ∧ L.jts = line5J ∧ L.bals = line5B ∧ Below w.heap.size w w' := by
  obtain ⟨i0, hi, hz0, hz1, hz2⟩ := info_parts inf_El
  obtain ⟨i1, hi1, hy0, hy1, hy2⟩ := info_parts inf_Nm
  have HII := Lib.hid hi
  have HI1 := Lib.hid hi1
  clear hi hi1
  go_enter Tryd.func26, Tryd.ntmps26
  go_wp2
  go_loopg [2] 3 (fun g ix wr => ∃ (k : Nat) (vS vE : Value), ix = .int .i64 k ∧ k ≤ 3 ∧ g = 3 - k ∧ Hid (Ext w wr) ∧ Hid (Lin5 w.heap.size wr k vS vE))
  case atStart =>
    refine ⟨0, .slice none 0 0, .slice none 0 0, rfl, by omega, by omega, eal (eal (eal (Ext.refl _) _) _) _, ?_, ?_, ?_, OwnL.nil, OwnL.nil, by simp [Value.ownBlock]⟩
    · exact Own.new (by simp)
    · exact Own.keep (Own.new rfl) (eal (eal (Ext.refl _) _) _)
    · exact CellsAt.keep (CellsAt.new (by simp)) (eal (Ext.refl _) _)
  case round =>
    obtain ⟨wi, rfl⟩ : ∃ wi : World, wi = wr := ⟨_, rfl⟩
    obtain ⟨k, vS, vE, rfl, hk, hg, X, H⟩ := hrel
    have HG := Lib.hid hg
    clear hg
    by_cases hlt : k < 3
    · obtain ⟨x, hx, ht, ht2, hsl⟩ := line5_step hlt
      have n0 := H.out.box.2.1 1 _ rfl
      have n1 := H.out.box.2.2 1
      have n2 := H.out.box.1
      have n3 := H.out.box.2.1 2 _ rfl
      have n4 := H.out.box.2.2 2
      have q0 : decide ((k : Int) < 3) = true := decide_eq_true (by omega)
      have E1 : Hid (Ext wi (wi.alloc (.cells #[.string x] 9))) := eal (Ext.refl _) _
      have C1 : Hid (CellsAt (wi.alloc (.cells #[.string x] 9)) wi.heap.size (Strc x)) := CellsAt.new rfl
      obtain ⟨ns, hns⟩ : ∃ ns, ns = nm5.take (k + 1) := ⟨_, rfl⟩
      obtain ⟨es, hes⟩ : ∃ es, es = line5E.take (k + 1) := ⟨_, rfl⟩
      have HNS := Lib.hid hns
      have HES := Lib.hid hes
      rw [← hns] at ht
      rw [← hes] at ht2
      have HT := Lib.hid ht
      have HT2 := Lib.hid ht2
      clear hns hes
      have hkl : (nm5.take k).length ≤ 3 := List.length_take_le' _ _
      have hkl2 : (line5E.take k).length ≤ 3 := List.length_take_le' _ _
      clear hx ht ht2
      have NS : ∀ b, b < w.heap.size + 1 + 1 + 1 → vS.ownBlock ≠ some b := fun b hb e => by have := H.out.secs.lt b e; omega
      have NE : ∀ b, b < w.heap.size + 1 + 1 + 1 → vE.ownBlock ≠ some b := fun b hb e => by have := H.out.els.lt b e; omega
      have NSX := Lib.hid NS
      have NEX := Lib.hid NE
      clear NS NE
      go_wp2_with (first
        | (at_builtin
           refine wp_app1 Strc_len Strc_one Tryd.underlying22 HI1.out hy0 hy1 hy2 rfl (by decide) rfl rfl rfl (H.out.secs.keep E1.out) x wi.heap.size (by simp [go_sem]) C1.out (by omega) (by unfold maxLen; omega) (by have := H.out.box.1; simp; omega) ?_
           intro v1 w1 h1 h2 h3
           have HW1 := Lib.hid h2
           rw [← HT.out] at h1
           obtain ⟨g1, cap1, rfl, hcap, hgb, hown⟩ := h1.form (by rw [HT.out]; simp)
           have HV1 := Lib.hid h1
           have HO1 : Hid (Own w1 (w.heap.size + 1 + 1) _) := (H.out.box.keep E1.out).grown h2 (NSX.out _ (by omega))
           have HZ1 : Hid (Own w1 w.heap.size _) := (H.out.zero.keep E1.out).grown h2 (NSX.out _ (by omega))
           have HB1 : Hid (CellsAt w1 (w.heap.size + 1) _) := (H.out.bals.keep E1.out).grown h2 (NSX.out _ (by omega))
           have HE1 : Hid (OwnL w1 (w.heap.size + 1 + 1 + 1) 79 7 Elc vE (line5E.take k)) := (H.out.els.keep E1.out).grownO h2 (fun b hb e => H.out.apart b e hb)
           have HA1 : Hid (∀ b, vE.ownBlock = some b → b ≠ g1) := fun b hb e => by
             subst e
             rcases h3 with h3 | h3
             · exact H.out.apart b (h3.symm.trans rfl) hb
             · have h4 := (H.out.els.lt b hb).2
               have h5 : some b = some (wi.alloc (.cells #[.string x] 9)).heap.size := h3
               simp at h5
               omega
           have hX1 : Hid (Ext w w1) := OwnL.app_below (etr X.out E1.out) (by have := X.out.size; have := E1.out.size; omega) (fun b hb => by have := (H.out.secs.lt b hb).1; omega) h2
           obtain ⟨w2, hw2, HO2, HN2⟩ := setO 1 (.slice (some ⟨g1, 0, none⟩) ns.length cap1) HO1.out (by simp)
           have HO2 := Lib.hid HO2
           have HN2 := Lib.hid HN2
           have HW2 := Lib.hid hw2
           have p0 := HO1.out.2.1 1 _ rfl
           have p1 := HO1.out.2.2 1
           have p2 := HO1.out.1
           have p3 := HO1.out.2.1 2 _ rfl
           have p4 := HO1.out.2.2 2
           clear h1 h2 h3 hcap hgb hown hw2 n0 n1 n2 n3 n4)
        | (at_builtin
           rw [← HW2.out, show w1.heap.size = w2.heap.size from HN2.out.size.symm]
           have C3 : Hid (CellsAt (w2.alloc (.cells #[.string x, .int .i64 1, .int .i64 20000, .int .i64 0, .int .i64 1000, .int .i64 0, .int .i64 k] 79)) w2.heap.size (Elc ⟨x, 1, 20000, 0, 1000, 0, (k : Int)⟩)) := CellsAt.new rfl
           have E3 : Hid (Ext w2 (w2.alloc (.cells #[.string x, .int .i64 1, .int .i64 20000, .int .i64 0, .int .i64 1000, .int .i64 0, .int .i64 k] 79))) := eal (Ext.refl _) _
           have hgb := HV1.out.lt g1 rfl
           have HE2 : Hid (OwnL w2 (w.heap.size + 1 + 1 + 1) 79 7 Elc vE (line5E.take k)) := HE1.out.only HN2.out (NEX.out _ (by omega))
           have HV2 : Hid (OwnL w2 (w.heap.size + 1 + 1 + 1) 9 1 Strc (.slice (some ⟨g1, 0, none⟩) ns.length cap1) ns) := HV1.out.only HN2.out (fun e => by have e2 : some g1 = some (w.heap.size + 1 + 1) := e; simp only [Option.some.injEq] at e2; omega)
           have HX2 : Hid (Ext w w2) := eonly hX1.out HN2.out (by omega)
           have hw3 : w.heap.size + 1 + 1 + 1 ≤ w2.heap.size := by have := HN2.out.size; have := hgb.2; have := hgb.1; omega
           refine wp_app1 Elc_len Elc_one Tryd.underlying23 HII.out hz0 hz1 hz2 rfl (by decide) rfl rfl rfl (HE2.out.keep E3.out) ⟨x, 1, 20000, 0, 1000, 0, (k : Int)⟩ w2.heap.size (by simp [go_sem]) C3.out (by omega) (by unfold maxLen; omega) (by have := E3.out.size; omega) ?_
           intro v3 w3 h1 h2 h3
           have HW3 := Lib.hid h2
           rw [← HT2.out] at h1
           obtain ⟨g3, cap3, rfl, hcap, hgb3, hown⟩ := h1.form (by rw [HT2.out]; simp)
           have HV3 := Lib.hid h1
           have HO3 : Hid (Own w3 (w.heap.size + 1 + 1) _) := (HO2.out.keep E3.out).grown h2 (NEX.out _ (by omega))
           have HZ3 : Hid (Own w3 w.heap.size _) := ((HZ1.out.only HN2.out (show w.heap.size ≠ w.heap.size + 1 + 1 by omega)).keep E3.out).grown h2 (NEX.out _ (by omega))
           have HB3 : Hid (CellsAt w3 (w.heap.size + 1) _) := ((HB1.out.only HN2.out (show w.heap.size + 1 ≠ w.heap.size + 1 + 1 by omega)).keep E3.out).grown h2 (NEX.out _ (by omega))
           have HS3 : Hid (OwnL w3 (w.heap.size + 1 + 1 + 1) 9 1 Strc (.slice (some ⟨g1, 0, none⟩) ns.length cap1) ns) := (HV2.out.keep E3.out).grownO h2 (fun b hb e => by cases hb; exact HA1.out _ e rfl)
           have HA3 : Hid (g1 ≠ g3) := fun e => by
             subst e
             rcases h3 with h3 | h3
             · exact HA1.out _ (h3.symm.trans rfl) rfl
             · have h4 := (HV2.out.lt g1 rfl).2
               have h5 : some g1 = some (w2.alloc (.cells #[.string x, .int .i64 1, .int .i64 20000, .int .i64 0, .int .i64 1000, .int .i64 0, .int .i64 k] 79)).heap.size := h3
               simp at h5
               omega
           have hX3 : Hid (Ext w w3) := OwnL.app_below (etr HX2.out E3.out) (by have := X.out.size; have := E3.out.size; omega) (fun b hb => by have := (HE2.out.lt b hb).1; omega) h2
           obtain ⟨w4, hw4, HO4, HN4⟩ := setO 2 (.slice (some ⟨g3, 0, none⟩) es.length cap3) HO3.out (by simp)
           have HO4 := Lib.hid HO4
           have HN4 := Lib.hid HN4
           have HW4 := Lib.hid hw4
           have p0 := HO3.out.2.1 2 _ rfl
           have p1 := HO3.out.2.2 2
           have p2 := HO3.out.1
           have hg3 := HV3.out.lt g3 rfl
           have hg1 := HS3.out.lt g1 rfl
           have HL : Hid (Lin5 w.heap.size w4 (k + 1) (.slice (some ⟨g1, 0, none⟩) ns.length cap1) (.slice (some ⟨g3, 0, none⟩) es.length cap3)) :=
             ⟨HO4.out, HZ3.out.only HN4.out (show w.heap.size ≠ w.heap.size + 1 + 1 by omega), HB3.out.only HN4.out (show w.heap.size + 1 ≠ w.heap.size + 1 + 1 by omega), HNS.out ▸ HS3.out.only HN4.out (fun e => by have e2 : some g1 = some (w.heap.size + 1 + 1) := e; simp only [Option.some.injEq] at e2; omega), HES.out ▸ HV3.out.only HN4.out (fun e => by have e2 : some g3 = some (w.heap.size + 1 + 1) := e; simp only [Option.some.injEq] at e2; omega), fun b hb e => by cases hb; cases e; exact HA3.out rfl⟩
           have HX4 : Hid (Ext w w4) := eonly hX3.out HN4.out (by omega)
           clear h1 h2 h3 hcap hgb hgb3 hown hw4 hg3 hg1))
      rw [← HW4.out]
      go_roundg (3 - (k + 1))
      case measure => have := HG.out; omega
      case rel => exact ⟨k + 1, _, _, by go_num, by omega, rfl, HX4.out, HL.out⟩
    · have e : k = 3 := by omega
      subst e
      have q0 : decide (((3 : Nat) : Int) < 3) = false := by decide
      have n3 := H.out.box.2.1 3 _ rfl
      have n1 := H.out.box.2.2 3
      have n2 := H.out.box.1
      go_upto_region 9 with (fail)
      obtain ⟨w4, hw4, HO4, HN4⟩ := setO 3 (.slice (some ⟨wi.heap.size, 0, none⟩) 2 2) H.out.box (by simp)
      rw [← hw4]
      have hz4 : wi.heap.size = w4.heap.size := HN4.size.symm
      rw [hz4] at HO4 ⊢
      have NS : ∀ b, b < w.heap.size + 1 + 1 + 1 → vS.ownBlock ≠ some b := fun b hb e => by have := H.out.secs.lt b e; omega
      have NE : ∀ b, b < w.heap.size + 1 + 1 + 1 → vE.ownBlock ≠ some b := fun b hb e => by have := H.out.els.lt b e; omega
      obtain ⟨w5, hw5⟩ : ∃ w5, w5 = w4.alloc (.cells #[.int .i64 0, .int .i64 1, .int .i64 1, .int .i64 0, .int .i64 1, .int .i64 1, .int .i64 2, .int .i64 0] 112) := ⟨_, rfl⟩
      rw [← hw5]
      have J5 : Hid (CellsAt w5 w4.heap.size (line5J.flatMap Jtc)) := hw5 ▸ CellsAt.new rfl
      have E5 : Hid (Ext w w5) := hw5 ▸ eal (eonly X.out HN4 (by omega)) _
      have X5 : Hid (Ext w4 w5) := hw5 ▸ eal (Ext.refl _) _
      have O5 : Hid (Own w5 (w.heap.size + 1 + 1) _) := HO4.keep X5.out
      have Z5 : Hid (Own w5 w.heap.size _) := (H.out.zero.only HN4 (show w.heap.size ≠ w.heap.size + 1 + 1 by omega)).keep X5.out
      have B5 : Hid (CellsAt w5 (w.heap.size + 1) _) := (H.out.bals.only HN4 (show w.heap.size + 1 ≠ w.heap.size + 1 + 1 by omega)).keep X5.out
      have V5 : Hid (OwnL w5 (w.heap.size + 1 + 1 + 1) 9 1 Strc vS nm5) := (H.out.secs.only HN4 (NS _ (by omega))).keep X5.out
      have U5 : Hid (OwnL w5 (w.heap.size + 1 + 1 + 1) 79 7 Elc vE line5E) := (H.out.els.only HN4 (NE _ (by omega))).keep X5.out
      have n4 : Hid (w.heap.size + 1 + 1 < w4.heap.size) := by show _ < _; omega
      clear hw5 hw4 HO4 HN4 hz4 n1 n2 n3
      obtain ⟨Ae, ce, rfl, he, hme⟩ := U5.out.rd Elc_len
      obtain ⟨As, cs, rfl, hs, hms⟩ := V5.out.rd Strc_len
      have m0 := O5.out.2.1 0 _ rfl
      have m1 := O5.out.2.1 1 _ rfl
      have m2 := O5.out.2.1 2 _ rfl
      have m3 := O5.out.2.1 3 _ rfl
      have m4 := O5.out.2.1 4 _ rfl
      have m5 := O5.out.2.1 5 _ rfl
      have m6 := O5.out.1
      have z0 := Z5.out.2.1 0 _ rfl
      have z1 := Z5.out.2.1 1 _ rfl
      have z2 := Z5.out.2.1 2 _ rfl
      have z3 := Z5.out.2.1 3 _ rfl
      have z4 := Z5.out.2.1 4 _ rfl
      have z5 := Z5.out.2.1 5 _ rfl
      have z6 := Z5.out.1
      have y0 := Z5.out.2.2 0
      have y1 := Z5.out.2.2 1
      have y2 := Z5.out.2.2 2
      have y3 := Z5.out.2.2 3
      have y4 := Z5.out.2.2 4
      have y5 := Z5.out.2.2 5
      clear he hme hs hms
      go_wp2
      obtain ⟨w8, hw8, HO8, HN8⟩ := set6 (.string ⟨#[108, 105, 110, 101]⟩) (.slice As nm5.length cs) (.slice Ae line5E.length ce) (.slice (some ⟨w4.heap.size, 0, none⟩) 2 2) (.slice none 0 0) (.slice (some ⟨w.heap.size + 1, 0, none⟩) 2 2) Z5.out rfl
      rw [← hw8]
      obtain ⟨_, _, hv, hr, hmm⟩ := (U5.out.only HN8 (NE _ (by omega))).rd Elc_len
      injection hv with hv1 hv2 hv3
      subst hv1
      obtain ⟨_, _, hv, hr2, hmm2⟩ := (V5.out.only HN8 (NS _ (by omega))).rd Strc_len
      injection hv with hv1 hv2 hv3
      subst hv1
      have r0 := HO8.2.1 0 _ rfl
      have r1 := HO8.2.1 1 _ rfl
      have r2 := HO8.2.1 2 _ rfl
      have r3 := HO8.2.1 3 _ rfl
      have r4 := HO8.2.1 4 _ rfl
      have r5 := HO8.2.1 5 _ rfl
      have h4 := n4.out
      refine bodyPost_ret (v := .agg #[.string ⟨#[108, 105, 110, 101]⟩, .slice As nm5.length cs, .slice Ae line5E.length ce, .slice (some ⟨w4.heap.size, 0, none⟩) 2 2, .slice none 0 0, .slice (some ⟨w.heap.size + 1, 0, none⟩) 2 2]) (by simp [results, Tryd.results26, go_sem, r0, r1, r2, r3, r4, r5]) rfl ⟨⟨⟨#[108, 105, 110, 101]⟩, As, nm5, cs, Ae, line5E, ce, some ⟨w4.heap.size, 0, none⟩, line5J, 2, none, [], 0, some ⟨w.heap.size + 1, 0, none⟩, line5B, 2⟩, rfl, ?_, rfl, rfl, rfl, eonly E5.out HN8 (Nat.le_refl _)⟩
      exact {
        hN := by show (4 : Nat) ≤ maxLen; unfold maxLen; decide
        hS := hr2
        hE := hr
        hJ := rd_cells (enc := Jtc) Jtc_len (J5.out.only HN8 (by omega))
        hG := Rd.nil
        hB := rd_cells (enc := Bac) Bac_len (B5.out.only HN8 (by omega))
        lS := by show (3 : Nat) ≤ maxLen; unfold maxLen; decide
        lE := by show (3 : Nat) ≤ maxLen; unfold maxLen; decide
        lJ := by show (2 : Nat) ≤ maxLen; unfold maxLen; decide
        lG := by show (0 : Nat) ≤ maxLen; unfold maxLen; decide
        lB := by show (2 : Nat) ≤ maxLen; unfold maxLen; decide
        iS := fun i x h => by have := List.mem_of_getElem? h; simp [nm5] at this; rcases this with rfl | rfl | rfl <;> (unfold maxLen; decide)
        iE := fun i x h => by have := List.mem_of_getElem? h; simp [line5E] at this; rcases this with rfl | rfl | rfl <;> (unfold ElmI I64 maxLen; decide)
        iJ := fun i x h => by have := List.mem_of_getElem? h; simp [line5J] at this; rcases this with rfl | rfl <;> (unfold JntI I64; decide)
        iG := fun i x h => by simp at h
        iB := fun i x h => by have := List.mem_of_getElem? h; simp [line5B] at this; rcases this with rfl | rfl <;> (unfold BlsI I64; decide) }
end Go.Proofs.YticonpjkcocgeaaDoor
