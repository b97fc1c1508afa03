/- Walk of MotionReads. Printed by gen_law5d.py. -/
import Derived.Test.YticonpjkcocgeaaDoorWRf5C
import Derived.Test.YticonpjkcocgeaaDoorWAlv5
import Derived.Test.YticonpjkcocgeaaDoorWFew5
set_option linter.unusedVariables false
set_option linter.unusedSimpArgs false
set_option maxRecDepth 100000
namespace Go.Proofs.YticonpjkcocgeaaDoor
open Go.ChangeShapes Go.WideShapes Go.ChangeAt Go.RowKit
open Sg

def zC : Cu := ⟨⟨0, ⟨#[]⟩, 0, 0, 0, 0, 0, 0, 0, 0⟩, 0, 0, 0, 0, 0, 0, 0, 0, [], [], 0, 0, 0, 0, false, 0⟩
section
set_option maxHeartbeats 32000000
theorem law_reads (L : Lay) (A1 : Option Addr) (l1 : List Stp) (c1 : Nat) (head1 len1 : Int) (A2 : Option Addr) (l2 : List Stp) (c2 : Nat) (head2 len2 : Int) (w : World) (hL : LayOk w L) (hT : Tabs w) (hr1 : Rd w A1 3 Stc l1) (hc1 : l1.length ≤ c1) (hr2 : Rd w A2 3 Stc l2) (hc2 : l2.length ≤ c2) :
    Calls Tryd.prog 6 #[.agg #[.string L.name, .slice L.aS L.secs.length L.cS, .slice L.aE L.els.length L.cE, .slice L.aJ L.jts.length L.cJ, .slice L.aG L.sgs.length L.cG, .slice L.aB L.bals.length L.cB], .agg #[.slice A1 l1.length c1, .int .i64 head1, .int .i64 len1], .agg #[.slice A2 l2.length c2, .int .i64 head2, .int .i64 len2]] w fun e w' => e = .returned (.bool true) ∧ Below w.heap.size w w' := by
  obtain ⟨w1, hw⟩ : ∃ w1, w1 = (((w.alloc (.cells #[.string L.name, .slice L.aS L.secs.length L.cS, .slice L.aE L.els.length L.cE, .slice L.aJ L.jts.length L.cJ, .slice L.aG L.sgs.length L.cG, .slice L.aB L.bals.length L.cB] 28)).alloc (.cells #[.slice A1 l1.length c1, .int .i64 head1, .int .i64 len1] 32)).alloc (.cells #[.slice A2 l2.length c2, .int .i64 head2, .int .i64 len2] 32)) := ⟨_, rfl⟩
  have E1 : Hid (Ext w w1) := by rw [hw]; exact eal (eal (eal (Ext.refl _) _) _) _
  have L1 : Hid (LayAt w1 w.heap.size L) := by rw [hw]; exact CellsAt.alloc (CellsAt.alloc (CellsAt.new rfl) _) _
  have O1 : Hid (BdyAt w1 (w.heap.size + 1) A1 l1 c1 head1 len1) := by rw [hw]; exact CellsAt.alloc (CellsAt.new (by simp)) _
  have P1 : Hid (BdyAt w1 (w.heap.size + 1 + 1) A2 l2 c2 head2 len2) := by rw [hw]; exact CellsAt.new (by simp)
  have HL := Lib.hid hL
  have HT := Lib.hid hT
  have HR1 := Lib.hid hr1
  have HR2 := Lib.hid hr2
  have HC1 := Lib.hid hc1
  have HC2 := Lib.hid hc2
  have HFA : Hid (∀ w', Ext w w' → Calls Tryd.prog 8 #[.agg #[.string L.name, .slice L.aS L.secs.length L.cS, .slice L.aE L.els.length L.cE, .slice L.aJ L.jts.length L.cJ, .slice L.aG L.sgs.length L.cG, .slice L.aB L.bals.length L.cB], .slice none 0 0, .agg #[.slice A1 l1.length c1, .int .i64 head1, .int .i64 len1, .int .i64 0, .int .i64 0, .int .i64 0, .int .i64 0, .string ⟨#[]⟩, .int .i64 0, .int .i64 0, .int .i64 0, .int .i64 0, .int .i64 0, .int .i64 0, .int .i64 0, .int .i64 0, .int .i64 0, .int .i64 0, .int .i64 0, .int .i64 0, .int .i64 0, .int .i64 0, .int .i64 0, .int .i64 0, .slice none 0 0, .slice none 0 0, .int .i64 0, .int .i64 0, .int .i64 0, .int .i64 0, .bool false, .int .i64 0]] w' (RetB (fun b => b = true → Few5 L [] l1 zC) w')) := fun w' h => few5_any L none [] 0 A1 l1 c1 head1 len1 0 0 0 zC none 0 none 0 w' (HL.out.keep h) (by show (0 : Nat) ≤ maxLen; omega)
  have HFB : Hid (∀ w', Ext w w' → Calls Tryd.prog 8 #[.agg #[.string L.name, .slice L.aS L.secs.length L.cS, .slice L.aE L.els.length L.cE, .slice L.aJ L.jts.length L.cJ, .slice L.aG L.sgs.length L.cG, .slice L.aB L.bals.length L.cB], .slice none 0 0, .agg #[.slice A2 l2.length c2, .int .i64 head2, .int .i64 len2, .int .i64 0, .int .i64 0, .int .i64 0, .int .i64 0, .string ⟨#[]⟩, .int .i64 0, .int .i64 0, .int .i64 0, .int .i64 0, .int .i64 0, .int .i64 0, .int .i64 0, .int .i64 0, .int .i64 0, .int .i64 0, .int .i64 0, .int .i64 0, .int .i64 0, .int .i64 0, .int .i64 0, .int .i64 0, .slice none 0 0, .slice none 0 0, .int .i64 0, .int .i64 0, .int .i64 0, .int .i64 0, .bool false, .int .i64 0]] w' (RetB (fun b => b = true → Few5 L [] l2 zC) w')) := fun w' h => few5_any L none [] 0 A2 l2 c2 head2 len2 0 0 0 zC none 0 none 0 w' (HL.out.keep h) (by show (0 : Nat) ≤ maxLen; omega)
  have HAL : Hid (∀ w', Ext w w' → Calls Tryd.prog 9 #[] w' fun e w2 => e = .returned (.bool true) ∧ Below w'.heap.size w' w2) := fun w' h => alive5_any w' (HT.out.keep h)
  obtain ⟨r, hr⟩ : ∃ r, r = readsV L.els L.jts L.bals l1 head1 len1 l2 head2 len2 := ⟨_, rfl⟩
  obtain ⟨gv, hgv⟩ : ∃ g, g = gradV L.els L.jts l1 head1 len1 := ⟨_, rfl⟩
  have HRL : Hid (Few5 L [] l1 zC → r.length ≤ 24) := fun F => by rw [hr]; exact readsV_len F.lay
  have HRA : Hid (Few5 L [] l1 zC → Few5 L [] l2 zC → ∀ w', Ext w w' → Calls Tryd.prog 11 #[.agg #[.string L.name, .slice L.aS L.secs.length L.cS, .slice L.aE L.els.length L.cE, .slice L.aJ L.jts.length L.cJ, .slice L.aG L.sgs.length L.cG, .slice L.aB L.bals.length L.cB], .agg #[.slice A1 l1.length c1, .int .i64 head1, .int .i64 len1], .agg #[.slice A2 l2.length c2, .int .i64 head2, .int .i64 len2]] w' (ReadsRet w' r)) := fun F G w' h => by
    rw [hr]
    exact reads_all L A1 l1 c1 head1 len1 A2 l2 c2 head2 len2 w' (HL.out.keep h) (HT.out.keep h) F.lay (HR1.out.keep h) (by have := F.way; omega) HC1.out (HR2.out.keep h) (by have := G.way; omega) HC2.out
  have HRB : Hid (Few5 L [] l1 zC → Few5 L [] l2 zC → ∀ w', Ext w w' → Calls Tryd.prog 21 #[.agg #[.string L.name, .slice L.aS L.secs.length L.cS, .slice L.aE L.els.length L.cE, .slice L.aJ L.jts.length L.cJ, .slice L.aG L.sgs.length L.cG, .slice L.aB L.bals.length L.cB], .agg #[.slice A1 l1.length c1, .int .i64 head1, .int .i64 len1], .agg #[.slice A2 l2.length c2, .int .i64 head2, .int .i64 len2]] w' (ReadsRet w' r)) := fun F G w' h => by
    rw [hr]
    exact reads51_all L A1 l1 c1 head1 len1 A2 l2 c2 head2 len2 w' (HL.out.keep h) F.lay (HR1.out.keep h) (by have := F.way; omega) HC1.out (HR2.out.keep h) (by have := G.way; omega) HC2.out
  have HGA : Hid (Few5 L [] l1 zC → ∀ w', Ext w w' → Calls Tryd.prog 22 #[.agg #[.string L.name, .slice L.aS L.secs.length L.cS, .slice L.aE L.els.length L.cE, .slice L.aJ L.jts.length L.cJ, .slice L.aG L.sgs.length L.cG, .slice L.aB L.bals.length L.cB], .agg #[.slice A1 l1.length c1, .int .i64 head1, .int .i64 len1]] w' fun e w2 => e = .returned (.int .i64 gv) ∧ Below w'.heap.size w' w2) := fun F w' h => by
    rw [hgv]
    exact grade_any L A1 l1 c1 head1 len1 w' (HL.out.keep h) (HT.out.keep h) F.lay.els (HR1.out.keep h) (by have := F.way; omega) HC1.out
  have HGB : Hid (Few5 L [] l1 zC → ∀ w', Ext w w' → Calls Tryd.prog 23 #[.agg #[.string L.name, .slice L.aS L.secs.length L.cS, .slice L.aE L.els.length L.cE, .slice L.aJ L.jts.length L.cJ, .slice L.aG L.sgs.length L.cG, .slice L.aB L.bals.length L.cB], .agg #[.slice A1 l1.length c1, .int .i64 head1, .int .i64 len1]] w' fun e w2 => e = .returned (.int .i64 gv) ∧ Below w'.heap.size w' w2) := fun F w' h => by
    rw [hgv]
    exact rgrade_any L A1 l1 c1 head1 len1 w' (HL.out.keep h) F.lay.els (HR1.out.keep h) (by have := F.way; omega) HC1.out
  clear hL hT hr1 hr2 hr hgv
  go_enter Tryd.func6, Tryd.ntmps6
  go_upto_region 1 with (fail)
  rw [← hw]
  clear hw
  obtain ⟨l0, a0, a1, a2, a3, a4, a5⟩ := layAt_cells L1.out
  obtain ⟨b0, b1, b2, b3⟩ := bdyAt_cells O1.out
  go_wp2_with fail
  clear l0 a0 a1 a2 a3 a4 a5 b0 b1 b2 b3
  refine (HFA.out _ E1.out).mono ?_
  rintro e w2 ⟨bb, rfl, hP, hb⟩
  have HF := Lib.hid hP
  have E2 := Lib.hid (etr E1.out hb)
  have L2 : Hid (LayAt w2 w.heap.size L) := L1.out.keep hb
  have O2 : Hid (BdyAt w2 (w.heap.size + 1) A1 l1 c1 head1 len1) := O1.out.keep hb
  have P2 : Hid (BdyAt w2 (w.heap.size + 1 + 1) A2 l2 c2 head2 len2) := P1.out.keep hb
  clear hP hb
  cases bb
  · go_wp2_with fail
    refine (HAL.out _ E2.out).mono ?_
    rintro e w3 ⟨rfl, hb⟩
    have E3 := Lib.hid (etr E2.out hb)
    clear hb
    go_wp2
    go_ret
    exact ⟨rfl, E3.out⟩
  have HFF := Lib.hid (HF.out rfl)
  clear HF
  obtain ⟨l0, a0, a1, a2, a3, a4, a5⟩ := layAt_cells L2.out
  obtain ⟨b0, b1, b2, b3⟩ := bdyAt_cells P2.out
  go_wp2_with fail
  clear l0 a0 a1 a2 a3 a4 a5 b0 b1 b2 b3
  refine (HFB.out _ E2.out).mono ?_
  rintro e w3 ⟨bb, rfl, hP, hb⟩
  have HF := Lib.hid hP
  have E3 := Lib.hid (etr E2.out hb)
  have L3 : Hid (LayAt w3 w.heap.size L) := L2.out.keep hb
  have O3 : Hid (BdyAt w3 (w.heap.size + 1) A1 l1 c1 head1 len1) := O2.out.keep hb
  have P3 : Hid (BdyAt w3 (w.heap.size + 1 + 1) A2 l2 c2 head2 len2) := P2.out.keep hb
  clear hP hb
  cases bb
  · go_wp2_with fail
    refine (HAL.out _ E3.out).mono ?_
    rintro e w4 ⟨rfl, hb⟩
    have E4 := Lib.hid (etr E3.out hb)
    clear hb
    go_wp2
    go_ret
    exact ⟨rfl, E4.out⟩
  have HFG := Lib.hid (HF.out rfl)
  have HRA2 := Lib.hid (HRA.out HFF.out HFG.out)
  have HRB2 := Lib.hid (HRB.out HFF.out HFG.out)
  have HGA2 := Lib.hid (HGA.out HFF.out)
  have HGB2 := Lib.hid (HGB.out HFF.out)
  have HRM : Hid (r.length ≤ maxLen) := by have := HRL.out HFF.out; show _ ≤ _; unfold maxLen; omega
  clear HF HRA HRB HGA HGB HRL
  obtain ⟨l0, a0, a1, a2, a3, a4, a5⟩ := layAt_cells L3.out
  obtain ⟨b0, b1, b2, b3⟩ := bdyAt_cells O3.out
  obtain ⟨d0, d1, d2, d3⟩ := bdyAt_cells P3.out
  go_upto_region 3 with (fail)
  refine wp_region_mono [0, 1, 2, 4, 5, 6] 16 (by kernel_rfl) (by kernel_rfl) (fun _ _ d _ _ h => by cases d <;> exact h) (by kernel_rfl) (by kernel_rfl) ?_
  repeat (refine wpE_step rfl (fun K hK => ?_); go_simp; (refine hK _ ?_; clear hK K))
  refine wpE_nil ?_
  intro x
  have X0 := Lib.hid (etr E3.out x.is)
  clear l0 a0 a1 a2 a3 a4 a5 b0 b1 b2 b3 d0 d1 d2 d3
  refine wpAnyR_ready (rs := [3]) (by kernel_rfl) (by simp) (AllR.cons rfl (fun K hK => ?_) AllR.nil)
  go_simp
  go_wp2_with fail
  refine (HRA2.out _ X0.out).mono ?_
  rintro e w4 ⟨A4, c4, rfl, hr4, hb4⟩
  have R4 := Lib.hid hr4
  have X4 := Lib.hid (etr X0.out hb4)
  have Y4 := Lib.hid (etr x.is hb4)
  refine hK _ _ hb4 (fun y => ?_)
  clear hK K hr4 hb4
  refine wpAnyR_ready (rs := [7]) (by kernel_rfl) (by simp) (AllR.cons rfl (fun K hK => ?_) AllR.nil)
  go_simp
  go_wp2_with fail
  refine (HRB2.out _ (etr X4.out y.is)).mono ?_
  rintro e w5 ⟨A5, c5, rfl, hr5, hb5⟩
  have R5 := Lib.hid hr5
  have R5b := Lib.hid ((R4.out.keep y.is).keep hb5)
  have X5 := Lib.hid (etr (etr X4.out y.is) hb5)
  have Y5 := Lib.hid (etr (etr Y4.out y.is) hb5)
  refine hK _ _ hb5 (fun z => ?_)
  clear hK K hr5 hb5
  have XZ := Lib.hid (etr X5.out z.is)
  have YZ := Lib.hid (etr Y5.out z.is)
  have HSR : Hid (∀ u : World, Ext w5 u → Calls Tryd.prog 20 #[.slice A4 r.length c4, .slice A5 r.length c5] u fun e w2 => e = .returned (.bool true) ∧ Below u.heap.size u w2) := fun u h => sreads_any A4 c4 A5 c5 r u (R5b.out.keep h) (R5.out.keep h) HRM.out
  obtain ⟨l0, a0, a1, a2, a3, a4, a5⟩ := layAt_cells (L3.out.keep YZ.out)
  obtain ⟨b0, b1, b2, b3⟩ := bdyAt_cells (O3.out.keep YZ.out)
  refine wpAnyR_more [8, 9, 10, 11, 12, 13, 14, 15, 16, 17, 18, 19, 20, 21] (fuel := 0) (by kernel_rfl) (fun _ _ d _ _ h => by cases d <;> exact h) (by kernel_rfl) rfl ?_
  repeat (refine wpE_step rfl (fun K hK => ?_); go_simp; (first
    | (refine hK _ ?_; clear hK K)
    | (apply Exists.intro
       refine ⟨fun u => ?_, hK _ ?_⟩
       (first
        | (go_at_call 20; exact HSR.out _ (etr z.is u.is))
        | (go_at_call 22; exact HGA2.out _ (etr XZ.out u.is))
        | (go_at_call 23; exact HGB2.out _ (etr XZ.out u.is))
        | (go_at_call 9; exact HAL.out _ (etr XZ.out u.is)))
       clear hK K)))
  refine wpE_nil ?_
  intro z9
  refine wpAnyR_done (by kernel_rfl) ?_ _
  go_wp2
  go_ret
  exact ⟨rfl, etr XZ.out z9.is⟩
end
end Go.Proofs.YticonpjkcocgeaaDoor
