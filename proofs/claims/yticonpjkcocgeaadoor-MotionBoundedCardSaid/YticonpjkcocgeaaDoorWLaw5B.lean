/- Walk of MotionBounded. Printed by gen_law5b.py. -/
import Derived.Test.YticonpjkcocgeaaDoorWAlv5
import Derived.Test.YticonpjkcocgeaaDoorWFew5
import Derived.Test.YticonpjkcocgeaaDoorWMotF
import Derived.Test.YticonpjkcocgeaaDoorPLaw5
set_option linter.unusedVariables false
set_option linter.unusedSimpArgs false
set_option maxRecDepth 100000
namespace Go.Proofs.YticonpjkcocgeaaDoor
open Go.ChangeShapes Go.WideShapes Go.ChangeAt Go.RowKit
open Sg

section
set_option maxHeartbeats 32000000
theorem law_bounded (L : Lay) (Ap : Option Addr) (pos : List Int) (cp : Nat) (A : Option Addr) (way : List Stp) (c : Nat) (head len speed x br : Int) (C : Cu) (B : Option Addr) (cb : Nat) (K : Option Addr) (ck : Nat) (want : Int) (w : World) (hL : LayOk w L) (hT : Tabs w) (hp : RdI w Ap pos) (hpm : pos.length ≤ maxLen) (hr : Rd w A 3 Stc way) (hc : way.length ≤ c) (hpr : Rd w B 4 Sgc C.p) (hpc : C.p.length ≤ cb) (hk : Rd w K 2 Lkc C.k) (hkc : C.k.length ≤ ck) (hn : C.T.name.size ≤ maxLen) (hi : I64 speed) :
    Calls Tryd.prog 7 #[.agg #[.string L.name, .slice L.aS L.secs.length L.cS, .slice L.aE L.els.length L.cE, .slice L.aJ L.jts.length L.cJ, .slice L.aG L.sgs.length L.cG, .slice L.aB L.bals.length L.cB], .slice Ap pos.length cp, .agg #[.slice A way.length c, .int .i64 head, .int .i64 len, .int .i64 speed, .int .i64 x, .int .i64 br, .int .i64 C.T.id, .string C.T.name, .int .i64 C.T.len, .int .i64 C.T.speed, .int .i64 C.T.accel, .int .i64 C.T.service, .int .i64 C.T.emergency, .int .i64 C.T.delay, .int .i64 C.T.cons, .int .i64 C.T.rate, .int .i64 C.mode, .int .i64 C.brake, .int .i64 C.next, .int .i64 C.emin, .int .i64 C.emax, .int .i64 C.espeed, .int .i64 C.seq, .int .i64 C.en, .slice B C.p.length cb, .slice K C.k.length ck, .int .i64 C.peer, .int .i64 C.out, .int .i64 C.inn, .int .i64 C.heard, .bool C.known, .int .i64 C.since], .int .i64 want] w fun e w' => e = .returned (.bool true) ∧ Below w.heap.size w w' := by
  obtain ⟨w1, hw⟩ : ∃ w1, w1 = ((w.alloc (.cells #[.string L.name, .slice L.aS L.secs.length L.cS, .slice L.aE L.els.length L.cE, .slice L.aJ L.jts.length L.cJ, .slice L.aG L.sgs.length L.cG, .slice L.aB L.bals.length L.cB] 28)).alloc (.cells #[.slice A way.length c, .int .i64 head, .int .i64 len, .int .i64 speed, .int .i64 x, .int .i64 br, .int .i64 C.T.id, .string C.T.name, .int .i64 C.T.len, .int .i64 C.T.speed, .int .i64 C.T.accel, .int .i64 C.T.service, .int .i64 C.T.emergency, .int .i64 C.T.delay, .int .i64 C.T.cons, .int .i64 C.T.rate, .int .i64 C.mode, .int .i64 C.brake, .int .i64 C.next, .int .i64 C.emin, .int .i64 C.emax, .int .i64 C.espeed, .int .i64 C.seq, .int .i64 C.en, .slice B C.p.length cb, .slice K C.k.length ck, .int .i64 C.peer, .int .i64 C.out, .int .i64 C.inn, .int .i64 C.heard, .bool C.known, .int .i64 C.since] 49)) := ⟨_, rfl⟩
  have E1 : Hid (Ext w w1) := by rw [hw]; exact eal (eal (Ext.refl _) _) _
  have L1 : Hid (LayAt w1 w.heap.size L) := by rw [hw]; exact CellsAt.alloc (CellsAt.new rfl) _
  have O1 : Hid (Own w1 (w.heap.size + 1) [.slice A way.length c, .int .i64 head, .int .i64 len, .int .i64 speed, .int .i64 x, .int .i64 br, .int .i64 C.T.id, .string C.T.name, .int .i64 C.T.len, .int .i64 C.T.speed, .int .i64 C.T.accel, .int .i64 C.T.service, .int .i64 C.T.emergency, .int .i64 C.T.delay, .int .i64 C.T.cons, .int .i64 C.T.rate, .int .i64 C.mode, .int .i64 C.brake, .int .i64 C.next, .int .i64 C.emin, .int .i64 C.emax, .int .i64 C.espeed, .int .i64 C.seq, .int .i64 C.en, .slice B C.p.length cb, .slice K C.k.length ck, .int .i64 C.peer, .int .i64 C.out, .int .i64 C.inn, .int .i64 C.heard, .bool C.known, .int .i64 C.since]) := by rw [hw]; exact Own.new (cs := #[.slice A way.length c, .int .i64 head, .int .i64 len, .int .i64 speed, .int .i64 x, .int .i64 br, .int .i64 C.T.id, .string C.T.name, .int .i64 C.T.len, .int .i64 C.T.speed, .int .i64 C.T.accel, .int .i64 C.T.service, .int .i64 C.T.emergency, .int .i64 C.T.delay, .int .i64 C.T.cons, .int .i64 C.T.rate, .int .i64 C.mode, .int .i64 C.brake, .int .i64 C.next, .int .i64 C.emin, .int .i64 C.emax, .int .i64 C.espeed, .int .i64 C.seq, .int .i64 C.en, .slice B C.p.length cb, .slice K C.k.length ck, .int .i64 C.peer, .int .i64 C.out, .int .i64 C.inn, .int .i64 C.heard, .bool C.known, .int .i64 C.since]) (t := 49) (by simp)
  have HL := Lib.hid hL
  have HT := Lib.hid hT
  have HP := Lib.hid hp
  have HR := Lib.hid hr
  have HPR := Lib.hid hpr
  have HK := Lib.hid hk
  have HN := Lib.hid hn
  have HC := Lib.hid hc
  have HPC := Lib.hid hpc
  have HKC := Lib.hid hkc
  have HPM := Lib.hid hpm
  have HFW : Hid (∀ w', Ext w w' → Calls Tryd.prog 8 #[.agg #[.string L.name, .slice L.aS L.secs.length L.cS, .slice L.aE L.els.length L.cE, .slice L.aJ L.jts.length L.cJ, .slice L.aG L.sgs.length L.cG, .slice L.aB L.bals.length L.cB], .slice Ap pos.length cp, .agg #[.slice A way.length c, .int .i64 head, .int .i64 len, .int .i64 speed, .int .i64 x, .int .i64 br, .int .i64 C.T.id, .string C.T.name, .int .i64 C.T.len, .int .i64 C.T.speed, .int .i64 C.T.accel, .int .i64 C.T.service, .int .i64 C.T.emergency, .int .i64 C.T.delay, .int .i64 C.T.cons, .int .i64 C.T.rate, .int .i64 C.mode, .int .i64 C.brake, .int .i64 C.next, .int .i64 C.emin, .int .i64 C.emax, .int .i64 C.espeed, .int .i64 C.seq, .int .i64 C.en, .slice B C.p.length cb, .slice K C.k.length ck, .int .i64 C.peer, .int .i64 C.out, .int .i64 C.inn, .int .i64 C.heard, .bool C.known, .int .i64 C.since]] w' (RetB (fun b => b = true → Few5 L pos way C) w')) := fun w' h => few5_any L Ap pos cp A way c head len speed x br C B cb K ck w' (HL.out.keep h) HN.out
  have HAL : Hid (∀ w', Ext w w' → Calls Tryd.prog 9 #[] w' fun e w2 => e = .returned (.bool true) ∧ Below w'.heap.size w' w2) := fun w' h => alive5_any w' (HT.out.keep h)
  obtain ⟨R, hR⟩ : ∃ R, R = stepV L.els L.jts pos C.T C.brake way head len speed x br want := ⟨_, rfl⟩
  obtain ⟨gb, hgb⟩ : ∃ gb, gb = goodB L.els L.jts C.T way head len speed x br := ⟨_, rfl⟩
  have HGB := Lib.hid hgb
  have HGD : Hid (Few5 L pos way C → ∀ w', Ext w w' → Calls Tryd.prog 12 #[.agg #[.string L.name, .slice L.aS L.secs.length L.cS, .slice L.aE L.els.length L.cE, .slice L.aJ L.jts.length L.cJ, .slice L.aG L.sgs.length L.cG, .slice L.aB L.bals.length L.cB], .agg #[.slice A way.length c, .int .i64 head, .int .i64 len, .int .i64 speed, .int .i64 x, .int .i64 br, .int .i64 C.T.id, .string C.T.name, .int .i64 C.T.len, .int .i64 C.T.speed, .int .i64 C.T.accel, .int .i64 C.T.service, .int .i64 C.T.emergency, .int .i64 C.T.delay, .int .i64 C.T.cons, .int .i64 C.T.rate, .int .i64 C.mode, .int .i64 C.brake, .int .i64 C.next, .int .i64 C.emin, .int .i64 C.emax, .int .i64 C.espeed, .int .i64 C.seq, .int .i64 C.en, .slice B C.p.length cb, .slice K C.k.length ck, .int .i64 C.peer, .int .i64 C.out, .int .i64 C.inn, .int .i64 C.heard, .bool C.known, .int .i64 C.since]] w' fun e w2 => e = .returned (.bool gb) ∧ Below w'.heap.size w' w2) := fun F w' h => by
    have := rgood_any L A way c head len speed x br C B cb K ck w' (HL.out.keep h) F.lay.els (HR.out.keep h) (by have := F.way; omega) HC.out HN.out
    rw [← HGB.out] at this; exact this
  have HST : Hid (Few5 L pos way C → ∀ w', Ext w w' → Calls Tryd.prog 17 #[.agg #[.string L.name, .slice L.aS L.secs.length L.cS, .slice L.aE L.els.length L.cE, .slice L.aJ L.jts.length L.cJ, .slice L.aG L.sgs.length L.cG, .slice L.aB L.bals.length L.cB], .slice Ap pos.length cp, .agg #[.slice A way.length c, .int .i64 head, .int .i64 len, .int .i64 speed, .int .i64 x, .int .i64 br, .int .i64 C.T.id, .string C.T.name, .int .i64 C.T.len, .int .i64 C.T.speed, .int .i64 C.T.accel, .int .i64 C.T.service, .int .i64 C.T.emergency, .int .i64 C.T.delay, .int .i64 C.T.cons, .int .i64 C.T.rate, .int .i64 C.mode, .int .i64 C.brake, .int .i64 C.next, .int .i64 C.emin, .int .i64 C.emax, .int .i64 C.espeed, .int .i64 C.seq, .int .i64 C.en, .slice B C.p.length cb, .slice K C.k.length ck, .int .i64 C.peer, .int .i64 C.out, .int .i64 C.inn, .int .i64 C.heard, .bool C.known, .int .i64 C.since], .int .i64 want] w' (StepRet w' len C R)) := fun F w' h => by
    rw [hR]
    exact step_any L Ap pos cp A way c head len speed x br C B cb K ck want w' (HL.out.keep h) (HT.out.keep h) F.lay.els F.lay.jts F.els (HP.out.below h (Nat.le_refl _)) HPM.out (HR.out.keep h) (by have := F.way; omega) (HPR.out.keep h) (by have := F.p; omega) (HK.out.keep h) (by have := F.k; omega) HN.out
  have HCY : Hid (Few5 L pos way C → gb = true → GoodU L.els L.jts C.T way head len speed x br ∧ CycR L.els L.jts C.T C.brake way head len speed x br want R) := fun F hg => by
    rw [HGB.out] at hg
    refine ⟨goodB_true.1 hg, ?_⟩
    rw [hR]
    exact cyc_ok (fun el h => by obtain ⟨k, y, _, hy, e⟩ := has_at h; rw [e]; exact (F.lay.els k y hy).2.2.1) (join_has F.lay.jts) F.els (goodB_true.1 hg)
  have HCK : Hid (Few5 L pos way C → chkM L.els L.jts R.steps R.head len = 0 → ∀ (A1 : Option Addr) (c1 : Nat) w', Ext w w' → Rd w' A1 3 Stc R.steps → R.steps.length ≤ c1 → Calls Tryd.prog 24 #[.agg #[.string L.name, .slice L.aS L.secs.length L.cS, .slice L.aE L.els.length L.cE, .slice L.aJ L.jts.length L.cJ, .slice L.aG L.sgs.length L.cG, .slice L.aB L.bals.length L.cB], .agg #[.slice A1 R.steps.length c1, .int .i64 R.head, .int .i64 len]] w' fun e w2 => e = .returned (.int .i64 0) ∧ Below w'.heap.size w' w2) := fun F hc A1 c1 w' h hr1 hc1 => by
    have hl : R.steps.length ≤ 64 := (chkM_zero.1 hc).1.1.2.1
    have := bchk_any L A1 R.steps c1 R.head len w' (HL.out.keep h) (HT.out.keep h) F.lay.els hr1 (by omega) hc1
    rw [hc] at this; exact this
  clear hR hgb
  clear hL hT hp hr hpr hk hn hc hpc hkc hpm
  go_enter Tryd.func7, Tryd.ntmps7
  go_upto_region 1 with (fail)
  rw [← hw]
  clear hw
  obtain ⟨l0, a0, a1, a2, a3, a4, a5⟩ := layAt_cells L1.out
  go_wp2_with (refine wp_ldN 49 [.slice A way.length c, .int .i64 head, .int .i64 len, .int .i64 speed, .int .i64 x, .int .i64 br, .int .i64 C.T.id, .string C.T.name, .int .i64 C.T.len, .int .i64 C.T.speed, .int .i64 C.T.accel, .int .i64 C.T.service, .int .i64 C.T.emergency, .int .i64 C.T.delay, .int .i64 C.T.cons, .int .i64 C.T.rate, .int .i64 C.mode, .int .i64 C.brake, .int .i64 C.next, .int .i64 C.emin, .int .i64 C.emax, .int .i64 C.espeed, .int .i64 C.seq, .int .i64 C.en, .slice B C.p.length cb, .slice K C.k.length ck, .int .i64 C.peer, .int .i64 C.out, .int .i64 C.inn, .int .i64 C.heard, .bool C.known, .int .i64 C.since] rfl rfl rfl O1.out.cells Tryd.underlying49 szUnt rfl ?_)
  clear l0 a0 a1 a2 a3 a4 a5
  refine (HFW.out _ E1.out).mono ?_
  rintro e w2 ⟨bb, rfl, hP, hb⟩
  have HF := Lib.hid hP
  have E2 := Lib.hid (etr E1.out hb)
  have L2 : Hid (LayAt w2 w.heap.size L) := L1.out.keep hb
  have O2 := Lib.hid (O1.out.keep hb)
  clear hP hb
  cases bb
  · go_wp2_with fail
    refine (HAL.out _ E2.out).mono ?_
    rintro e w3 ⟨rfl, hb⟩
    have E3 := Lib.hid (etr E2.out hb)
    clear hb
    go_wp2
    go_ret
    exact ⟨rfl, E3.out⟩
  have HFF := Lib.hid (HF.out rfl)
  have HGG := Lib.hid (HGD.out HFF.out)
  have HSS := Lib.hid (HST.out HFF.out)
  have HCC := Lib.hid (HCY.out HFF.out)
  have HKK := Lib.hid (HCK.out HFF.out)
  clear HF HST HGD HCY HCK HGB
  obtain ⟨l0, a0, a1, a2, a3, a4, a5⟩ := layAt_cells L2.out
  go_wp2_with (refine wp_ldG 49 [.slice A way.length c, .int .i64 head, .int .i64 len, .int .i64 speed, .int .i64 x, .int .i64 br, .int .i64 C.T.id, .string C.T.name, .int .i64 C.T.len, .int .i64 C.T.speed, .int .i64 C.T.accel, .int .i64 C.T.service, .int .i64 C.T.emergency, .int .i64 C.T.delay, .int .i64 C.T.cons, .int .i64 C.T.rate, .int .i64 C.mode, .int .i64 C.brake, .int .i64 C.next, .int .i64 C.emin, .int .i64 C.emax, .int .i64 C.espeed, .int .i64 C.seq, .int .i64 C.en, .slice B C.p.length cb, .slice K C.k.length ck, .int .i64 C.peer, .int .i64 C.out, .int .i64 C.inn, .int .i64 C.heard, .bool C.known, .int .i64 C.since] rfl rfl rfl O2.out.cells Tryd.underlying49 szUnt rfl ?_)
  clear l0 a0 a1 a2 a3 a4 a5
  refine (HGG.out _ E2.out).mono ?_
  rintro e w3 ⟨rfl, hb⟩
  have E3 := Lib.hid (etr E2.out hb)
  have L3 : Hid (LayAt w3 w.heap.size L) := L2.out.keep hb
  have O3 := Lib.hid (O2.out.keep hb)
  clear hb
  cases gb
  · go_wp2_with fail
    refine (HAL.out _ E3.out).mono ?_
    rintro e w4 ⟨rfl, hb⟩
    have E4 := Lib.hid (etr E3.out hb)
    clear hb
    go_wp2
    go_ret
    exact ⟨rfl, E4.out⟩
  have HCG := Lib.hid (HCC.out rfl)
  clear HCC
  obtain ⟨l0, a0, a1, a2, a3, a4, a5⟩ := layAt_cells L3.out
  go_wp2_with (refine wp_ldN 49 [.slice A way.length c, .int .i64 head, .int .i64 len, .int .i64 speed, .int .i64 x, .int .i64 br, .int .i64 C.T.id, .string C.T.name, .int .i64 C.T.len, .int .i64 C.T.speed, .int .i64 C.T.accel, .int .i64 C.T.service, .int .i64 C.T.emergency, .int .i64 C.T.delay, .int .i64 C.T.cons, .int .i64 C.T.rate, .int .i64 C.mode, .int .i64 C.brake, .int .i64 C.next, .int .i64 C.emin, .int .i64 C.emax, .int .i64 C.espeed, .int .i64 C.seq, .int .i64 C.en, .slice B C.p.length cb, .slice K C.k.length ck, .int .i64 C.peer, .int .i64 C.out, .int .i64 C.inn, .int .i64 C.heard, .bool C.known, .int .i64 C.since] rfl rfl rfl O3.out.cells Tryd.underlying49 szUnt rfl ?_)
  clear l0 a0 a1 a2 a3 a4 a5
  refine (HSS.out _ E3.out).mono ?_
  rintro e w4 ⟨A1, c1, B1, cb1, K1, ck1, rfl, hr1, hp1, hk1, hb⟩
  have E4 := Lib.hid (etr E3.out hb)
  have L4 : Hid (LayAt w4 w.heap.size L) := L3.out.keep hb
  have O4 := Lib.hid (O3.out.keep hb)
  have R4 := Lib.hid hr1
  clear hr1 hp1 hk1 hb
  go_upto_region 4 with (refine wp_stN 49 [.slice A1 R.steps.length c1, .int .i64 R.head, .int .i64 len, .int .i64 R.speed, .int .i64 R.x, .int .i64 R.braking, .int .i64 C.T.id, .string C.T.name, .int .i64 C.T.len, .int .i64 C.T.speed, .int .i64 C.T.accel, .int .i64 C.T.service, .int .i64 C.T.emergency, .int .i64 C.T.delay, .int .i64 C.T.cons, .int .i64 C.T.rate, .int .i64 C.mode, .int .i64 C.brake, .int .i64 C.next, .int .i64 C.emin, .int .i64 C.emax, .int .i64 C.espeed, .int .i64 C.seq, .int .i64 C.en, .slice B1 C.p.length cb1, .slice K1 C.k.length ck1, .int .i64 C.peer, .int .i64 C.out, .int .i64 C.inn, .int .i64 C.heard, .bool C.known, .int .i64 C.since] [.slice A1 R.steps.length c1, .int .i64 R.head, .int .i64 len, .int .i64 R.speed, .int .i64 R.x, .int .i64 R.braking, .int .i64 C.T.id, .string C.T.name, .int .i64 C.T.len, .int .i64 C.T.speed, .int .i64 C.T.accel, .int .i64 C.T.service, .int .i64 C.T.emergency, .int .i64 C.T.delay, .int .i64 C.T.cons, .int .i64 C.T.rate, .int .i64 C.mode, .int .i64 C.brake, .int .i64 C.next, .int .i64 C.emin, .int .i64 C.emax, .int .i64 C.espeed, .int .i64 C.seq, .int .i64 C.en, .slice B1 C.p.length cb1, .slice K1 C.k.length ck1, .int .i64 C.peer, .int .i64 C.out, .int .i64 C.inn, .int .i64 C.heard, .bool C.known, .int .i64 C.since] rfl rfl rfl (Own.new (w := w4) (cs := #[.slice none 0 0, .int .i64 0, .int .i64 0, .int .i64 0, .int .i64 0, .int .i64 0, .int .i64 0, .string ⟨#[]⟩, .int .i64 0, .int .i64 0, .int .i64 0, .int .i64 0, .int .i64 0, .int .i64 0, .int .i64 0, .int .i64 0, .int .i64 0, .int .i64 0, .int .i64 0, .int .i64 0, .int .i64 0, .int .i64 0, .int .i64 0, .int .i64 0, .slice none 0 0, .slice none 0 0, .int .i64 0, .int .i64 0, .int .i64 0, .int .i64 0, .bool false, .int .i64 0]) (t := 49) rfl) rfl szUnt rfl (by show (0 + 32 : Nat) ≤ 32; decide) rfl ?_; intro w5 H5)
  have g5 : Ext w4 w5 := eonly (eal (Ext.refl _) _) H5.out.2 (Nat.le_refl _)
  have E5 := Lib.hid (etr E4.out g5)
  have L5 : Hid (LayAt w5 w.heap.size L) := L4.out.keep g5
  have O5 := Lib.hid (O4.out.keep g5)
  have N5 := Lib.hid H5.out.1
  have R5 := Lib.hid (R4.out.1.keep g5)
  clear g5
  go_upto_region 5 with (refine wp_ldN 35 [.int .i64 C.T.id, .string C.T.name, .int .i64 C.T.len, .int .i64 C.T.speed, .int .i64 C.T.accel, .int .i64 C.T.service, .int .i64 C.T.emergency, .int .i64 C.T.delay, .int .i64 C.T.cons, .int .i64 C.T.rate] rfl rfl rfl O5.out.cells Tryd.underlying35 szTr rfl ?_)
  obtain ⟨w6, hw⟩ : ∃ w6, w6 = w5.alloc (.cells #[.int .i64 C.T.id, .string C.T.name, .int .i64 C.T.len, .int .i64 C.T.speed, .int .i64 C.T.accel, .int .i64 C.T.service, .int .i64 C.T.emergency, .int .i64 C.T.delay, .int .i64 C.T.cons, .int .i64 C.T.rate] 35) := ⟨_, rfl⟩
  rw [← hw]
  have g6 : Ext w5 w6 := by rw [hw]; exact eal (Ext.refl _) _
  have E6 := Lib.hid (etr E5.out g6)
  have L6 : Hid (LayAt w6 w.heap.size L) := L5.out.keep g6
  have O6 := Lib.hid (O5.out.keep g6)
  have N6 := Lib.hid (N5.out.keep g6)
  have R6 := Lib.hid (R5.out.keep g6)
  have T6 : Hid (Own w6 w5.heap.size [.int .i64 C.T.id, .string C.T.name, .int .i64 C.T.len, .int .i64 C.T.speed, .int .i64 C.T.accel, .int .i64 C.T.service, .int .i64 C.T.emergency, .int .i64 C.T.delay, .int .i64 C.T.cons, .int .i64 C.T.rate]) := by rw [hw]; exact Own.new (cs := #[.int .i64 C.T.id, .string C.T.name, .int .i64 C.T.len, .int .i64 C.T.speed, .int .i64 C.T.accel, .int .i64 C.T.service, .int .i64 C.T.emergency, .int .i64 C.T.delay, .int .i64 C.T.cons, .int .i64 C.T.rate]) (t := 35) rfl
  clear hw g6
  have HBN : Hid (∀ k : Int, R.speed ≤ k → True) := fun _ _ => trivial
  have hcy := HCG.out.2
  have hgd := HCG.out.1
  have htr := chkE_ok hgd.tr
  have hbd := newV_bd htr (g := gradV L.els L.jts way head len) (br := C.brake) (braking := br) (want := want) hgd.speed
  have hac := htr.accel
  have hsp := htr.speed
  have hgs := hgd.speed
  have hgx := hgd.x
  have hn0 := hcy.n0
  have hnv := hcy.nv
  have hv := hcy.v
  have hx := hcy.x
  have hRs : 0 ≤ R.speed ∧ R.speed ≤ speed + C.T.accel ∧ R.speed ≤ max speed C.T.speed ∧ R.speed ≤ 10000 := by rcases hv with h | h <;> omega
  have HRS := Lib.hid hRs
  have n1 : IntKind.i64.wrap (speed + C.T.accel) = speed + C.T.accel := IntWalk.i64_in _ (by omega)
  have n2 : IntKind.i64.wrap (x + R.n) = x + R.n := IntWalk.i64_in _ (by omega)
  have t1 : decide (R.speed < 0) = false := decide_eq_false (by omega)
  have t2 : decide (speed + C.T.accel < R.speed) = false := decide_eq_false (by omega)
  have t3 : decide (max speed C.T.speed < R.speed) = false := decide_eq_false (by omega)
  have t4 : decide (R.n < 0) = false := decide_eq_false (by omega)
  have t5 : (R.x != x + R.n) = false := by rw [hx]; simp
  have t6 : decide (R.n ≤ max (speed + C.T.accel) 0) = true := decide_eq_true (by omega)
  have HCH := Lib.hid (HKK.out hcy.chk)
  have HFI := Lib.hid hcy.fin
  have HGO := Lib.hid hcy.go
  clear hcy hgd htr hbd hac hsp hgs hgx hn0 hnv hv hx hRs HKK
  obtain ⟨l0, a0, a1, a2, a3, a4, a5⟩ := layAt_cells L6.out
  have o3 := O6.out.cells.2 3 _ rfl
  have o4 := O6.out.cells.2 4 _ rfl
  have oz := O6.out.cells.1
  have p3 := N6.out.cells.2 3 _ rfl
  have p4 := N6.out.cells.2 4 _ rfl
  have pz := N6.out.cells.1
  have r3 := T6.out.cells.2 3 _ rfl
  have r4 := T6.out.cells.2 4 _ rfl
  have rz := T6.out.cells.1
  go_wp2_with (refine wp_ldG 32 [.slice A1 R.steps.length c1, .int .i64 R.head, .int .i64 len] rfl rfl rfl N6.out.cells Tryd.underlying32 szBdy rfl ?_)
  clear l0 a0 a1 a2 a3 a4 a5 o3 o4 oz p3 p4 pz r3 r4 rz
  refine (HCH.out A1 c1 _ E6.out R6.out R4.out.2).mono ?_
  rintro e w7 ⟨rfl, hb⟩
  have E7 := Lib.hid (etr E6.out hb)
  have O7 := Lib.hid (O6.out.keep hb)
  have N7 := Lib.hid (N6.out.keep hb)
  have T7 := Lib.hid (T6.out.keep hb)
  clear hb
  have o3 := O7.out.cells.2 3 _ rfl
  have oz := O7.out.cells.1
  have p3 := N7.out.cells.2 3 _ rfl
  have pz := N7.out.cells.1
  have r4 := T7.out.cells.2 4 _ rfl
  have rz := T7.out.cells.1
  rcases Bool.eq_false_or_eq_true R.ended with q | q
  · have q2 : (R.speed == 0) = true := by simpa using HFI.out q
    go_wp2_with fail
    clear o3 oz p3 pz r4 rz
    refine (HAL.out _ E7.out).mono ?_
    rintro e w8 ⟨rfl, hb⟩
    have E8 := Lib.hid (etr E7.out hb)
    clear hb
    go_wp2
    go_ret
    exact ⟨rfl, E8.out⟩
  · have q2 : (R.n == R.speed) = true := by simpa using (HGO.out q).1
    go_wp2_with fail
    clear o3 oz p3 pz r4 rz
    refine (HAL.out _ E7.out).mono ?_
    rintro e w8 ⟨rfl, hb⟩
    have E8 := Lib.hid (etr E7.out hb)
    clear hb
    go_wp2
    go_ret
    exact ⟨rfl, E8.out⟩
end
end Go.Proofs.YticonpjkcocgeaaDoor
