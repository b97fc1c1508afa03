/- Walk of signallinglaw43.alive. -/
import Derived.Test.YtacnfchoemndeaaDoorWApp
import Derived.Test.YtacnfchoemndeaaDoorWRApp
import Derived.Test.YtacnfchoemndeaaDoorWRstC
import Derived.Test.YtacnfchoemndeaaDoorWRstD
import Derived.Test.YtacnfchoemndeaaDoorWLine
import Derived.Test.YtacnfchoemndeaaDoorPLay2
set_option linter.unusedVariables false
set_option linter.unusedSimpArgs false
set_option maxRecDepth 100000
namespace Go.Proofs.YtacnfchoemndeaaDoor
open Go.ChangeShapes Go.WideShapes Go.ChangeAt Go.RowKit
open Sg

def exR : Rst := ⟨1, 1, 2000, 5000, 800, false⟩
def exOn : Rst := ⟨1, 1, 2000, 5000, 800, true⟩
def exW : List Stp := [⟨1, 0, 1⟩]
def exP : List Sgm := [⟨0, 20000, 0, 3000⟩]
def exQ : List Sgm := [⟨0, 2000, 0, 3000⟩, ⟨2000, 5000, 0, 800⟩, ⟨5000, 20000, 0, 3000⟩]
theorem ex_put : putE lineE [] exR = 0 := by decide
theorem ex_putL : putL lineE [] exR = [exR] := by
  unfold putL; rw [if_pos ex_put]; rfl
theorem ex_set : setE [exR] 1 true = 0 := by decide
theorem ex_setL : setL [exR] 1 true = [exOn] := by rfl
theorem ex_set2 : setE [exOn] 1 true = 11 := by decide
theorem ex_els : ElsOk lineE := fun k x h => by
  have := List.mem_of_getElem? h
  simp [lineE] at this
  rcases this with rfl | rfl | rfl <;> decide
theorem ex_way : Sg.Way lineE lineJ exW := by
  refine ⟨by decide, by decide, fun i s hi hs => ?_⟩
  have hi' : i < 1 := hi
  obtain rfl : i = 0 := by omega
  simp [exW] at hs
  subst hs
  exact ⟨⟨by decide, by decide⟩, fun j t hj => absurd hj (by omega), fun t h => absurd h (by omega)⟩
theorem ex_seg : SegOk ⟨0, 20000, 0, 3000⟩ := by unfold SegOk; decide
theorem ex_app : appL lineE lineJ [exOn] exW 0 exP = exQ := by
  unfold appL
  rw [if_pos ⟨validB_true.1 (valid_one ex_seg), ex_way, by decide, by decide⟩]
  show (if useR lineE exOn then lowF lineE exOn exW 0 exP else exP) = _
  rw [if_pos (by decide)]
  show limL exP 2000 5000 800 = _
  unfold limL
  rw [if_pos ⟨valid_one ex_seg, by decide⟩, if_pos (by decide)]
  rfl
set_option maxHeartbeats 8000000 in
theorem alive_any (w : World) (hT : Tabs w) : Calls Tryd.prog 9 #[] w fun e w' => e = .returned (.bool true) ∧ Below w.heap.size w w' := by
  have HT := Lib.hid hT
  clear hT
  go_enter Tryd.func9, Tryd.ntmps9
  go_upto_region 2 with (go_at_call 26; refine (line_any _).mono ?_; rintro e w1 ⟨L, rfl, hL, hE, hJ, hb⟩; have HL := Lib.hid hL; have HE := Lib.hid hE; have HJ := Lib.hid hJ; have HB1 := Lib.hid hb; clear hL hE hJ hb)
  have HPUT : Hid (∀ w', Ext w1 w' → Calls Tryd.prog 10 #[.agg #[.string L.name, .slice L.aS L.secs.length L.cS, .slice L.aE L.els.length L.cE, .slice L.aJ L.jts.length L.cJ, .slice L.aG L.sgs.length L.cG, .slice L.aB L.bals.length L.cB], .slice none 0 0, .agg #[.int .i64 1, .int .i64 1, .int .i64 2000, .int .i64 5000, .int .i64 800, .bool false]] w' fun e w'' => ∃ v, e = .returned (.tuple #[v, .int .i64 0]) ∧ OwnL w'' w'.heap.size 31 6 Rsc v [exR] ∧ Below w'.heap.size w' w'') := fun w' h => by
    have := put_any L exR none [] 0 w' (HL.out.keep h) (by decide) (by decide) Rd.nil
    rw [show putE L.els [] exR = 0 by rw [HE.out]; exact ex_put, show putL L.els [] exR = [exR] by rw [HE.out]; exact ex_putL] at this
    exact this
  have L1 : Hid (LayAt (w1.alloc (.cells #[.string L.name, .slice L.aS L.secs.length L.cS, .slice L.aE L.els.length L.cE, .slice L.aJ L.jts.length L.cJ, .slice L.aG L.sgs.length L.cG, .slice L.aB L.bals.length L.cB] 28)) w1.heap.size L) := CellsAt.new rfl
  go_upto_region 4 with (go_at_call 10; refine (HPUT.out _ (eal (eal (Ext.refl _) _) _)).mono ?_; rintro e w3 ⟨v, rfl, ho, hb⟩; obtain ⟨A3, c3, rfl, hr3, hm3, hc3⟩ := ho.rdc Rsc_len; have HR3 := Lib.hid hr3; have HC3 := Lib.hid hc3; have HB3 := Lib.hid hb; clear ho hr3 hm3 hc3 hb)
  have E3 : Hid (Ext w1 w3) := etr (eal (eal (Ext.refl _) _) _) HB3.out
  have L3 : Hid (LayAt w3 w1.heap.size L) := (L1.out.keep (eal (Ext.refl _) _)).keep HB3.out
  have HSET : Hid (∀ w', Ext w3 w' → Calls Tryd.prog 15 #[.slice A3 1 c3, .int .i64 1, .bool true] w' fun e w'' => ∃ v, e = .returned (.tuple #[v, .int .i64 0]) ∧ OwnL w'' w'.heap.size 31 6 Rsc v [exOn] ∧ Below w'.heap.size w' w'') := fun w' h => by
    have := set_any A3 [exR] c3 1 true w' (by decide) HC3.out (HR3.out.keep h)
    rw [ex_set, ex_setL] at this
    exact this
  go_upto_region 5 with (go_at_call 15; refine (HSET.out _ (Ext.refl _)).mono ?_; rintro e w4 ⟨v, rfl, ho, hb⟩; obtain ⟨A4, c4, rfl, hr4, hm4, hc4⟩ := ho.rdc Rsc_len; have HR4 := Lib.hid hr4; have HC4 := Lib.hid hc4; have HB4 := Lib.hid hb; clear ho hr4 hm4 hc4 hb)
  have HSET2 : Hid (∀ w', Ext w4 w' → Calls Tryd.prog 15 #[.slice A4 1 c4, .int .i64 1, .bool true] w' fun e w'' => ∃ v, e = .returned (.tuple #[v, .int .i64 11]) ∧ Below w'.heap.size w' w'') := fun w' h => by
    have := set_any A4 [exOn] c4 1 true w' (by decide) HC4.out (HR4.out.keep h)
    rw [ex_set2] at this
    exact this.mono fun e w'' ⟨v, h1, _, h3⟩ => ⟨v, h1, h3⟩
  go_upto_region 6 with (go_at_call 15; refine (HSET2.out _ (Ext.refl _)).mono ?_; rintro e w5 ⟨v5, rfl, hb⟩; have HB5 := Lib.hid hb; clear hb)
  have E5 : Hid (Ext w w5) := etr (etr (etr HB1.out E3.out) HB4.out) HB5.out
  have HAPP : Hid (∀ w' a b, Ext w5 w' → CellsAt w' a (exW.flatMap Stc) → CellsAt w' b (exP.flatMap Sgc) → Calls Tryd.prog 19 #[.slice A4 1 c4, .slice (some ⟨a, 0, none⟩) 1 1, .int .i64 0, .agg #[.string L.name, .slice L.aS L.secs.length L.cS, .slice L.aE L.els.length L.cE, .slice L.aJ L.jts.length L.cJ, .slice L.aG L.sgs.length L.cG, .slice L.aB L.bals.length L.cB], .slice (some ⟨b, 0, none⟩) 1 1] w' fun e w'' => ∃ A' cap', e = .returned (.slice A' 3 cap') ∧ Rd w'' A' 4 Sgc exQ ∧ Below w'.heap.size w' w'') := fun w' a b h ha hb => by
    have := apply_any L A4 [exOn] c4 (some ⟨a, 0, none⟩) exW 1 0 (some ⟨b, 0, none⟩) exP 1 w' (HL.out.keep (etr (etr (etr E3.out HB4.out) HB5.out) h)) (HT.out.keep (etr E5.out h)) (by rw [HE.out]; exact ex_els) (HR4.out.keep (etr HB5.out h)) (by show (1 : Nat) ≤ maxLen; unfold maxLen; decide) (rd_cells Stc_len ha) (by show (1 : Nat) ≤ maxLen; unfold maxLen; decide) (by decide) (rd_cells Sgc_len hb) (by decide)
    rw [show appL L.els L.jts [exOn] exW 0 exP = exQ by rw [HE.out, HJ.out]; exact ex_app] at this
    exact this.mono fun e w'' ⟨A', cap', h1, h2, _, h4⟩ => ⟨A', cap', h1, h2, h4⟩
  obtain ⟨l0, a0, a1, a2, a3, a4, a5⟩ := layAt_cells ((L3.out.keep HB4.out).keep HB5.out)
  have l1 := lt_up l0
  have l2 := lt_up l1
  go_upto_region 7 with (go_at_call 19; refine (HAPP.out _ _ _ (eal (eal (Ext.refl _) _) _) (CellsAt.keep (CellsAt.new rfl) (eal (Ext.refl _) _)) (CellsAt.new (by simp))).mono ?_; rintro e w6 ⟨A6, c6, rfl, hr6, hb6⟩; have HR6 := Lib.hid hr6; have HB6 := Lib.hid hb6; clear hr6 hb6)
  have hsame : sameL exQ exQ = true := sameL_true.2 rfl
  have HSM : Hid (∀ w' b, Ext w6 w' → CellsAt w' b (exQ.flatMap Sgc) → Calls Tryd.prog 18 #[.slice A6 3 c6, .slice (some ⟨b, 0, none⟩) 3 3] w' fun e w'' => e = .returned (.bool true) ∧ Below w'.heap.size w' w'') := fun w' b h hb => by
    have := same_any A6 (some ⟨b, 0, none⟩) exQ exQ c6 3 w' (by show (3 : Nat) ≤ maxLen; unfold maxLen; decide) (by show (3 : Nat) ≤ maxLen; unfold maxLen; decide) (HR6.out.keep h) (rd_cells Sgc_len hb)
    rw [hsame] at this
    exact this
  go_wp2_with (go_at_call 18; refine (HSM.out _ _ (eal (Ext.refl _) _) (CellsAt.new rfl)).mono ?_; rintro e w7 ⟨rfl, hb7⟩; have HB7 := Lib.hid hb7; clear hb7)
  go_ret
  exact ⟨rfl, etr (etr (etr E5.out (eal (eal (Ext.refl _) _) _)) HB6.out) (etr (eal (Ext.refl _) _) HB7.out)⟩
end Go.Proofs.YtacnfchoemndeaaDoor
