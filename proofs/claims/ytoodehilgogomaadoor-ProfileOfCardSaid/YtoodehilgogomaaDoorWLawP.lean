/- Walk of the law ProfileOf. -/
import Derived.Test.YtoodehilgogomaaDoorWOf2
import Derived.Test.YtoodehilgogomaaDoorWChkG
import Derived.Test.YtoodehilgogomaaDoorWLawB
import Derived.Test.YtoodehilgogomaaDoorWProfE
set_option linter.unusedVariables false
set_option linter.unusedSimpArgs false
set_option maxRecDepth 100000
namespace Go.Proofs.YtoodehilgogomaaDoor
open Go.ChangeShapes Go.WideShapes Go.ChangeAt Go.RowKit
open Sg

set_option maxHeartbeats 8000000 in
theorem few_p (L : Lay) (A : Option Addr) (way : List Stp) (c : Nat) (w : World) :
    Calls Tryd.prog 4 #[.agg #[.string L.name, .slice L.aS L.secs.length L.cS, .slice L.aE L.els.length L.cE, .slice L.aJ L.jts.length L.cJ, .slice L.aG L.sgs.length L.cG, .slice L.aB L.bals.length L.cB], .slice A way.length c] w (RetB (fun b => b = true → FewL L ∧ way.length ≤ 300) w) := by
  have E0 : Hid (Ext w (w.alloc (.cells #[.string L.name, .slice L.aS L.secs.length L.cS, .slice L.aE L.els.length L.cE, .slice L.aJ L.jts.length L.cJ, .slice L.aG L.sgs.length L.cG, .slice L.aB L.bals.length L.cB] 28))) := eal (Ext.refl _) _
  have key : (decide ((L.els.length : Int) ≤ 40) = false ∨ (decide ((L.els.length : Int) ≤ 40) = true ∧ decide ((L.secs.length : Int) ≤ 40) = false) ∨ (decide ((L.els.length : Int) ≤ 40) = true ∧ decide ((L.secs.length : Int) ≤ 40) = true ∧ decide ((L.jts.length : Int) ≤ 100) = false) ∨ (decide ((L.els.length : Int) ≤ 40) = true ∧ decide ((L.secs.length : Int) ≤ 40) = true ∧ decide ((L.jts.length : Int) ≤ 100) = true ∧ decide ((L.sgs.length : Int) ≤ 40) = false) ∨ (decide ((L.els.length : Int) ≤ 40) = true ∧ decide ((L.secs.length : Int) ≤ 40) = true ∧ decide ((L.jts.length : Int) ≤ 100) = true ∧ decide ((L.sgs.length : Int) ≤ 40) = true ∧ decide ((L.bals.length : Int) ≤ 40) = false) ∨ (decide ((L.els.length : Int) ≤ 40) = true ∧ decide ((L.secs.length : Int) ≤ 40) = true ∧ decide ((L.jts.length : Int) ≤ 100) = true ∧ decide ((L.sgs.length : Int) ≤ 40) = true ∧ decide ((L.bals.length : Int) ≤ 40) = true ∧ decide ((way.length : Int) ≤ 300) = false)) ∨ (decide ((L.els.length : Int) ≤ 40) = true ∧ decide ((L.secs.length : Int) ≤ 40) = true ∧ decide ((L.jts.length : Int) ≤ 100) = true ∧ decide ((L.sgs.length : Int) ≤ 40) = true ∧ decide ((L.bals.length : Int) ≤ 40) = true ∧ decide ((way.length : Int) ≤ 300) = true) := by
    cases decide ((L.els.length : Int) ≤ 40) <;> cases decide ((L.secs.length : Int) ≤ 40) <;> cases decide ((L.jts.length : Int) ≤ 100) <;> cases decide ((L.sgs.length : Int) ≤ 40) <;> cases decide ((L.bals.length : Int) ≤ 40) <;> cases decide ((way.length : Int) ≤ 300) <;> simp
  rcases key with key | ⟨q1, q2, q3, q4, q5, q6⟩
  · rcases key with q1 | ⟨q1, q2⟩ | ⟨q1, q2, q3⟩ | ⟨q1, q2, q3, q4⟩ | ⟨q1, q2, q3, q4, q5⟩ | ⟨q1, q2, q3, q4, q5, q6⟩
    iterate 6
      · go_enter Tryd.func4, Tryd.ntmps4
        go_wp2
        go_ret
        exact RetB.mk (fun h => by cases h) E0.out
  · have HQ : Hid (FewL L ∧ way.length ≤ 300) := ⟨⟨by have := of_decide_eq_true q2; omega, by have := of_decide_eq_true q1; omega, by have := of_decide_eq_true q3; omega, by have := of_decide_eq_true q4; omega, by have := of_decide_eq_true q5; omega⟩, by have := of_decide_eq_true q6; omega⟩
    go_enter Tryd.func4, Tryd.ntmps4
    go_wp2
    go_ret
    exact RetB.mk (fun _ => HQ.out) E0.out

set_option maxHeartbeats 16000000 in
theorem law_of (L : Lay) (A : Option Addr) (way : List Stp) (c : Nat) (o : Int) (w : World) (hT : Tabs w) (hL : LayOk w L) (hr : Rd w A 3 Stc way) (hm : way.length ≤ maxLen) :
    Calls Tryd.prog 3 #[.agg #[.string L.name, .slice L.aS L.secs.length L.cS, .slice L.aE L.els.length L.cE, .slice L.aJ L.jts.length L.cJ, .slice L.aG L.sgs.length L.cG, .slice L.aB L.bals.length L.cB], .slice A way.length c, .int .i64 o] w fun e w' => e = .returned (.bool true) ∧ Below w.heap.size w w' := by
  obtain ⟨q, hq⟩ : ∃ q, q = ofL negW L.els way o := ⟨_, rfl⟩
  have HOF : Hid (∀ w', Ext w w' → ElsOk L.els → Calls Tryd.prog 7 #[.agg #[.string L.name, .slice L.aS L.secs.length L.cS, .slice L.aE L.els.length L.cE, .slice L.aJ L.jts.length L.cJ, .slice L.aG L.sgs.length L.cG, .slice L.aB L.bals.length L.cB], .slice A way.length c, .int .i64 o] w' (RetP q w')) := fun w' h he => by rw [hq]; exact of_any L A way c o w' (hL.keep h) (hT.keep h) he (hr.keep h) hm
  have HRO : Hid (∀ w', Ext w w' → ElsOk L.els → Calls Tryd.prog 9 #[.agg #[.string L.name, .slice L.aS L.secs.length L.cS, .slice L.aE L.els.length L.cE, .slice L.aJ L.jts.length L.cJ, .slice L.aG L.sgs.length L.cG, .slice L.aB L.bals.length L.cB], .slice A way.length c, .int .i64 o] w' (RetP q w')) := fun w' h he => by rw [hq]; exact rof_any L A way c o w' (hL.keep h) he (hr.keep h) hm
  have HCK : Hid (∀ w', Ext w w' → FewL L → Calls Tryd.prog 5 #[.agg #[.string L.name, .slice L.aS L.secs.length L.cS, .slice L.aE L.els.length L.cE, .slice L.aJ L.jts.length L.cJ, .slice L.aG L.sgs.length L.cG, .slice L.aB L.bals.length L.cB]] w' (RetE (fun n => n = 0 → ElsOk L.els) w')) := fun w' h hf => check_lay L w' (hL.keep h) hf
  have HQL : Hid (q.length ≤ maxLen) := by
    have := ofL_len negW (els := L.els) (way := way) (o := o)
    show _ ≤ _
    rw [hq]; unfold maxLen; omega
  have HQV : Hid (validB q = true) := by
    show _ = _
    rw [hq]; exact validB_true.2 (ofL_valid negW)
  clear hq hT hL hr hm
  have E0 : Hid (Ext w (w.alloc (.cells #[.string L.name, .slice L.aS L.secs.length L.cS, .slice L.aE L.els.length L.cE, .slice L.aJ L.jts.length L.cJ, .slice L.aG L.sgs.length L.cG, .slice L.aB L.bals.length L.cB] 28))) := eal (Ext.refl _) _
  have L0 : Hid (LayAt (w.alloc (.cells #[.string L.name, .slice L.aS L.secs.length L.cS, .slice L.aE L.els.length L.cE, .slice L.aJ L.jts.length L.cJ, .slice L.aG L.sgs.length L.cG, .slice L.aB L.bals.length L.cB] 28)) w.heap.size L) := CellsAt.new rfl
  go_enter Tryd.func3, Tryd.ntmps3
  go_upto_region 3 with (first
    | (go_at_call 4; refine (few_p L A way c _).mono ?_; rintro e w1 ⟨bb, rfl, hq, hb⟩; have H1 := Lib.hid hb; have HQ := Lib.hid hq; clear hb hq; obtain ⟨l0, a0, a1, a2, a3, a4, a5⟩ := layAt_cells (L0.out.keep H1.out); cases bb)
    | (go_at_call 6; refine (alive_any _).mono ?_; rintro e w3 ⟨rfl, hb⟩; have H3 := Lib.hid hb; clear hb)
    | (go_at_call 5; refine (HCK.out _ (etr E0.out H1.out) (HQ.out (by simp)).1).mono ?_; rintro e w2 ⟨n2, rfl, hq2, hb⟩; have H2 := Lib.hid hb; have HQ2 := Lib.hid hq2; clear hb hq2; rcases Bool.eq_false_or_eq_true (n2 != 0) with q1 | q1))
  · go_ret
    exact ⟨rfl, etr (etr E0.out H1.out) H3.out⟩
  · go_ret
    exact ⟨rfl, etr (etr (etr E0.out H1.out) H2.out) H3.out⟩
  have hn2 : n2 = 0 := by simpa using q1
  have HEL : Hid (ElsOk L.els) := HQ2.out hn2
  have E2 : Hid (Ext w w2) := etr (etr E0.out H1.out) H2.out
  have L2 : Hid (LayAt w2 w.heap.size L) := (L0.out.keep H1.out).keep H2.out
  clear l0 a0 a1 a2 a3 a4 a5 hn2 q1
  obtain ⟨l0, a0, a1, a2, a3, a4, a5⟩ := layAt_cells L2.out
  go_upto_region 4 with (go_at_call 7; refine (HOF.out _ E2.out HEL.out).mono ?_; rintro e w4 ⟨A4, c4, rfl, hr4, hb⟩; have H4 := Lib.hid hb; have HR4 := Lib.hid hr4; clear hb hr4)
  have L4 : Hid (LayAt w4 w.heap.size L) := L2.out.keep H4.out
  have E4 : Hid (Ext w w4) := etr E2.out H4.out
  clear l0 a0 a1 a2 a3 a4 a5
  obtain ⟨l0, a0, a1, a2, a3, a4, a5⟩ := layAt_cells L4.out
  have hsm : sameL q q = true := sameL_true.2 rfl
  have HSM := Lib.hid hsm
  clear hsm
  go_wp2_with (first
    | (go_at_call 9; refine (HRO.out _ E4.out HEL.out).mono ?_; rintro e w5 ⟨A5, c5, rfl, hr5, hb⟩; have H5 := Lib.hid hb; have HR5 := Lib.hid hr5; clear hb hr5)
    | (go_at_call 8; refine (same_any A4 A5 q q c4 c5 _ HQL.out HQL.out (HR4.out.keep H5.out) HR5.out).mono ?_; rw [HSM.out]; rintro e w6 ⟨rfl, hb⟩; have H6 := Lib.hid hb; clear hb)
    | (go_at_call 10; refine (valid_any A4 q c4 _ HQL.out (HR4.out.keep (etr H5.out H6.out))).mono ?_; rw [HQV.out]; rintro e w7 ⟨rfl, hb⟩; have H7 := Lib.hid hb; clear hb)
    | (go_at_call 6; refine (alive_any _).mono ?_; rintro e w8 ⟨rfl, hb⟩; have H8 := Lib.hid hb; clear hb))
  go_ret
  exact ⟨rfl, etr (etr (etr (etr E4.out H5.out) H6.out) H7.out) H8.out⟩
end Go.Proofs.YtoodehilgogomaaDoor
