/- Walk of signallinglaw51.steepest. Printed by gen_law5c.py. -/
import Derived.Test.YticonpjkcocgeaaDoorPLaw5
import Derived.Test.YticonpjkcocgeaaDoorWMotC
set_option linter.unusedVariables false
set_option linter.unusedSimpArgs false
set_option maxRecDepth 100000
namespace Go.Proofs.YticonpjkcocgeaaDoor
open Go.ChangeShapes Go.WideShapes Go.ChangeAt Go.RowKit
open Sg

theorem steep_step {els : List Elm} {k : Nat} {x : Elm} (h : els[k]? = some x) : steepL (els.take (k + 1)) = max (max (steepL (els.take k)) x.grade) (-x.grade) := by
  obtain ⟨hl, rfl⟩ := List.getElem?_eq_some_iff.1 h
  rw [List.take_succ_eq_append_getElem hl, steepL_snoc]
set_option maxHeartbeats 16000000 in
theorem steep_any (L : Lay) (w : World) (hL : LayOk w L) (hE : ElsOk L.els) : Calls Tryd.prog 14 #[.agg #[.string L.name, .slice L.aS L.secs.length L.cS, .slice L.aE L.els.length L.cE, .slice L.aJ L.jts.length L.cJ, .slice L.aG L.sgs.length L.cG, .slice L.aB L.bals.length L.cB]] w fun e w' => e = .returned (.int .i64 (steepL L.els)) ∧ Below w.heap.size w w' := by
  have HL := Lib.hid hL
  have HE := Lib.hid hE
  have hm := hL.lE
  unfold maxLen at hm
  clear hL hE
  go_enter Tryd.func14, Tryd.ntmps14
  go_wp2
  go_loopg [3, 4] L.els.length (fun g x3 ix wr => ∃ (k : Nat) (s : Int), ix = .int .i64 k ∧ x3 = .int .i64 s ∧ k ≤ L.els.length ∧ g = L.els.length - k ∧ Hid (s = steepL (L.els.take k)) ∧ Hid (Ext w wr ∧ LayAt wr w.heap.size L))
  case atStart => exact ⟨0, 0, rfl, rfl, by omega, by omega, rfl, eal (Ext.refl _) _, CellsAt.new rfl⟩
  case round =>
    obtain ⟨k, s, rfl, rfl, hk, hg, HS, H⟩ := hrel
    have HG := Lib.hid hg
    clear hg
    obtain ⟨l0, a0, a1, a2, a3, a4, a5⟩ := layAt_cells H.out.2
    by_cases hlt : k < L.els.length
    · have q0 : decide ((k : Int) < (L.els.length : Int)) = true := decide_eq_true (by omega)
      obtain ⟨bE, oE, x, hAE, hx, hbE, e0, e1, e2, e3, e4, e5, e6⟩ := rd_el HL.out.hE H.out.1 hlt
      have HN : Hid (max s (max x.grade (-x.grade)) = steepL (L.els.take (k + 1))) := by show _ = _; rw [steep_step hx, ← HS.out]; omega
      have hgr := (HE.out k x hx)
      have n1 : IntKind.i64.wrap (-x.grade) = -x.grade := IntWalk.i64_in _ (by omega)
      have i1 : (0 : Int) ≤ (k : Int) := by omega
      have i2 : (k : Int) < (L.els.length : Int) := by omega
      rw [hAE] at a2
      clear hx hgr hAE
      go_upto_region 5 with (fail)
      refine wp_region_after (by kernel_rfl) (by kernel_rfl) ?_
      repeat (first | go_big_quiet_step (fail))
      refine wpQuiet_nil ?_
      rintro _ ⟨y, rfl⟩
      go_wp2
      go_roundg (L.els.length - (k + 1))
      case measure => have := HG.out; omega
      case rel => exact ⟨k + 1, _, by go_num, rfl, by omega, rfl, HN.out, etr H.out.1 y.is, H.out.2.keep y.is⟩
    · have q0 : decide ((k : Int) < (L.els.length : Int)) = false := decide_eq_false (by omega)
      have HN : Hid (s = steepL L.els) := by have := HS.out; rwa [List.take_of_length_le (by omega)] at this
      go_wp2
      go_ret
      exact ⟨ret_int HN.out, H.out.1⟩
end Go.Proofs.YticonpjkcocgeaaDoor
