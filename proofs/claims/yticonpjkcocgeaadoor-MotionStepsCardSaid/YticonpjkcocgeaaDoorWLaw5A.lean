/- Walk of MotionSteps. Printed by gen_law5a.py. -/
import Derived.Test.YticonpjkcocgeaaDoorWAlv5
import Derived.Test.YticonpjkcocgeaaDoorWFew5
import Derived.Test.YticonpjkcocgeaaDoorWMotF
import Derived.Test.YticonpjkcocgeaaDoorWMotG
set_option linter.unusedVariables false
set_option linter.unusedSimpArgs false
set_option maxRecDepth 100000
namespace Go.Proofs.YticonpjkcocgeaaDoor
open Go.ChangeShapes Go.WideShapes Go.ChangeAt Go.RowKit
open Sg

theorem stepV_len {els : List Elm} {jts : List Jnt} {pos : List Int} {T : Tr} {br : Int} {l : List Stp} {head len speed x braking want : Int} (hE : ElsOk els) (hJ : JtsOk els jts) (h32 : els.length ≤ 32) (hl : l.length ≤ 200) : (stepV els jts pos T br l head len speed x braking want).steps.length ≤ 200 := by
  cases hg : goodB els jts T l head len speed x braking
  · rw [stepV_no hg]; exact hl
  · rw [stepV_yes hg rfl rfl]
    have hb := (goodB_true.1 hg).body
    show (moveV els jts pos len l head _).steps.length ≤ 200
    unfold moveV
    rw [if_pos hb]
    have h := (movV_ok (pos := pos) (d := newV T speed (gradV els jts l head len) br braking want) (fun el h => by obtain ⟨k, y, _, hy, e⟩ := has_at h; rw [e]; exact (hE k y hy).2.2.1) (join_has hJ) h32 hb).2
    have := (chkM_zero.1 h).1.1.2.1
    omega
section
set_option maxHeartbeats 32000000
theorem law_steps (L : Lay) (Ap : Option Addr) (pos : List Int) (cp : Nat) (A : Option Addr) (way : List Stp) (c : Nat) (head len speed x br : Int) (C : Cu) (B : Option Addr) (cb : Nat) (K : Option Addr) (ck : Nat) (want : Int) (w : World) (hL : LayOk w L) (hT : Tabs w) (hp : RdI w Ap pos) (hpm : pos.length ≤ maxLen) (hr : Rd w A 3 Stc way) (hc : way.length ≤ c) (hpr : Rd w B 4 Sgc C.p) (hpc : C.p.length ≤ cb) (hk : Rd w K 2 Lkc C.k) (hkc : C.k.length ≤ ck) (hn : C.T.name.size ≤ maxLen) :
    Calls Tryd.prog 5 #[.agg #[.string L.name, .slice L.aS L.secs.length L.cS, .slice L.aE L.els.length L.cE, .slice L.aJ L.jts.length L.cJ, .slice L.aG L.sgs.length L.cG, .slice L.aB L.bals.length L.cB], .slice Ap pos.length cp, .agg #[.slice A way.length c, .int .i64 head, .int .i64 len, .int .i64 speed, .int .i64 x, .int .i64 br, .int .i64 C.T.id, .string C.T.name, .int .i64 C.T.len, .int .i64 C.T.speed, .int .i64 C.T.accel, .int .i64 C.T.service, .int .i64 C.T.emergency, .int .i64 C.T.delay, .int .i64 C.T.cons, .int .i64 C.T.rate, .int .i64 C.mode, .int .i64 C.brake, .int .i64 C.next, .int .i64 C.emin, .int .i64 C.emax, .int .i64 C.espeed, .int .i64 C.seq, .int .i64 C.en, .slice B C.p.length cb, .slice K C.k.length ck, .int .i64 C.peer, .int .i64 C.out, .int .i64 C.inn, .int .i64 C.heard, .bool C.known, .int .i64 C.since], .int .i64 want] w fun e w' => e = .returned (.bool true) ∧ Below w.heap.size w w' := by
  obtain ⟨w1, hw⟩ : ∃ w1, w1 = ((w.alloc (.cells #[.string L.name, .slice L.aS L.secs.length L.cS, .slice L.aE L.els.length L.cE, .slice L.aJ L.jts.length L.cJ, .slice L.aG L.sgs.length L.cG, .slice L.aB L.bals.length L.cB] 28)).alloc (.cells #[.slice A way.length c, .int .i64 head, .int .i64 len, .int .i64 speed, .int .i64 x, .int .i64 br, .int .i64 C.T.id, .string C.T.name, .int .i64 C.T.len, .int .i64 C.T.speed, .int .i64 C.T.accel, .int .i64 C.T.service, .int .i64 C.T.emergency, .int .i64 C.T.delay, .int .i64 C.T.cons, .int .i64 C.T.rate, .int .i64 C.mode, .int .i64 C.brake, .int .i64 C.next, .int .i64 C.emin, .int .i64 C.emax, .int .i64 C.espeed, .int .i64 C.seq, .int .i64 C.en, .slice B C.p.length cb, .slice K C.k.length ck, .int .i64 C.peer, .int .i64 C.out, .int .i64 C.inn, .int .i64 C.heard, .bool C.known, .int .i64 C.since] 49)) := ⟨_, rfl⟩
  have E1 : Hid (Ext w w1) := by rw [hw]; exact eal (eal (Ext.refl _) _) _
  have L1 : Hid (LayAt w1 w.heap.size L) := by rw [hw]; exact CellsAt.alloc (CellsAt.new rfl) _
  have O1 : Hid (Own w1 (w.heap.size + 1) [.slice A way.length c, .int .i64 head, .int .i64 len, .int .i64 speed, .int .i64 x, .int .i64 br, .int .i64 C.T.id, .string C.T.name, .int .i64 C.T.len, .int .i64 C.T.speed, .int .i64 C.T.accel, .int .i64 C.T.service, .int .i64 C.T.emergency, .int .i64 C.T.delay, .int .i64 C.T.cons, .int .i64 C.T.rate, .int .i64 C.mode, .int .i64 C.brake, .int .i64 C.next, .int .i64 C.emin, .int .i64 C.emax, .int .i64 C.espeed, .int .i64 C.seq, .int .i64 C.en, .slice B C.p.length cb, .slice K C.k.length ck, .int .i64 C.peer, .int .i64 C.out, .int .i64 C.inn, .int .i64 C.heard, .bool C.known, .int .i64 C.since]) := by rw [hw]; exact Own.new (cs := #[.slice A way.length c, .int .i64 head, .int .i64 len, .int .i64 speed, .int .i64 x, .int .i64 br, .int .i64 C.T.id, .string C.T.name, .int .i64 C.T.len, .int .i64 C.T.speed, .int .i64 C.T.accel, .int .i64 C.T.service, .int .i64 C.T.emergency, .int .i64 C.T.delay, .int .i64 C.T.cons, .int .i64 C.T.rate, .int .i64 C.mode, .int .i64 C.brake, .int .i64 C.next, .int .i64 C.emin, .int .i64 C.emax, .int .i64 C.espeed, .int .i64 C.seq, .int .i64 C.en, .slice B C.p.length cb, .slice K C.k.length ck, .int .i64 C.peer, .int .i64 C.out, .int .i64 C.inn, .int .i64 C.heard, .bool C.known, .int .i64 C.since]) (t := 49) (by simp)
  have HL := Lib.hid hL
  have HT := Lib.hid hT
  have HP := Lib.hid hp
  have HR := Lib.hid hr
  have HPR := Lib.hid hpr
  have HK := Lib.hid hk
  have HN := Lib.hid hn
  have HC := Lib.hid hc
  have HPC := Lib.hid hpc
  have HKC := Lib.hid hkc
  have HPM := Lib.hid hpm
  have HFW : Hid (∀ w', Ext w w' → Calls Tryd.prog 8 #[.agg #[.string L.name, .slice L.aS L.secs.length L.cS, .slice L.aE L.els.length L.cE, .slice L.aJ L.jts.length L.cJ, .slice L.aG L.sgs.length L.cG, .slice L.aB L.bals.length L.cB], .slice Ap pos.length cp, .agg #[.slice A way.length c, .int .i64 head, .int .i64 len, .int .i64 speed, .int .i64 x, .int .i64 br, .int .i64 C.T.id, .string C.T.name, .int .i64 C.T.len, .int .i64 C.T.speed, .int .i64 C.T.accel, .int .i64 C.T.service, .int .i64 C.T.emergency, .int .i64 C.T.delay, .int .i64 C.T.cons, .int .i64 C.T.rate, .int .i64 C.mode, .int .i64 C.brake, .int .i64 C.next, .int .i64 C.emin, .int .i64 C.emax, .int .i64 C.espeed, .int .i64 C.seq, .int .i64 C.en, .slice B C.p.length cb, .slice K C.k.length ck, .int .i64 C.peer, .int .i64 C.out, .int .i64 C.inn, .int .i64 C.heard, .bool C.known, .int .i64 C.since]] w' (RetB (fun b => b = true → Few5 L pos way C) w')) := fun w' h => few5_any L Ap pos cp A way c head len speed x br C B cb K ck w' (HL.out.keep h) HN.out
  have HAL : Hid (∀ w', Ext w w' → Calls Tryd.prog 9 #[] w' fun e w2 => e = .returned (.bool true) ∧ Below w'.heap.size w' w2) := fun w' h => alive5_any w' (HT.out.keep h)
  obtain ⟨R, hR⟩ : ∃ R, R = stepV L.els L.jts pos C.T C.brake way head len speed x br want := ⟨_, rfl⟩
  have HST : Hid (Few5 L pos way C → R.steps.length ≤ 200 ∧ ∀ w', Ext w w' → Calls Tryd.prog 17 #[.agg #[.string L.name, .slice L.aS L.secs.length L.cS, .slice L.aE L.els.length L.cE, .slice L.aJ L.jts.length L.cJ, .slice L.aG L.sgs.length L.cG, .slice L.aB L.bals.length L.cB], .slice Ap pos.length cp, .agg #[.slice A way.length c, .int .i64 head, .int .i64 len, .int .i64 speed, .int .i64 x, .int .i64 br, .int .i64 C.T.id, .string C.T.name, .int .i64 C.T.len, .int .i64 C.T.speed, .int .i64 C.T.accel, .int .i64 C.T.service, .int .i64 C.T.emergency, .int .i64 C.T.delay, .int .i64 C.T.cons, .int .i64 C.T.rate, .int .i64 C.mode, .int .i64 C.brake, .int .i64 C.next, .int .i64 C.emin, .int .i64 C.emax, .int .i64 C.espeed, .int .i64 C.seq, .int .i64 C.en, .slice B C.p.length cb, .slice K C.k.length ck, .int .i64 C.peer, .int .i64 C.out, .int .i64 C.inn, .int .i64 C.heard, .bool C.known, .int .i64 C.since], .int .i64 want] w' (StepRet w' len C R) ∧ Calls Tryd.prog 18 #[.agg #[.string L.name, .slice L.aS L.secs.length L.cS, .slice L.aE L.els.length L.cE, .slice L.aJ L.jts.length L.cJ, .slice L.aG L.sgs.length L.cG, .slice L.aB L.bals.length L.cB], .slice Ap pos.length cp, .agg #[.slice A way.length c, .int .i64 head, .int .i64 len, .int .i64 speed, .int .i64 x, .int .i64 br, .int .i64 C.T.id, .string C.T.name, .int .i64 C.T.len, .int .i64 C.T.speed, .int .i64 C.T.accel, .int .i64 C.T.service, .int .i64 C.T.emergency, .int .i64 C.T.delay, .int .i64 C.T.cons, .int .i64 C.T.rate, .int .i64 C.mode, .int .i64 C.brake, .int .i64 C.next, .int .i64 C.emin, .int .i64 C.emax, .int .i64 C.espeed, .int .i64 C.seq, .int .i64 C.en, .slice B C.p.length cb, .slice K C.k.length ck, .int .i64 C.peer, .int .i64 C.out, .int .i64 C.inn, .int .i64 C.heard, .bool C.known, .int .i64 C.since], .int .i64 want] w' (StepRet w' len C R)) := fun F => ⟨by
    rw [hR]; exact stepV_len F.lay.els F.lay.jts F.els (by have := F.way; omega), fun w' h => by
    rw [hR]
    exact ⟨step_any L Ap pos cp A way c head len speed x br C B cb K ck want w' (HL.out.keep h) (HT.out.keep h) F.lay.els F.lay.jts F.els (HP.out.below h (Nat.le_refl _)) HPM.out (HR.out.keep h) (by have := F.way; omega) (HPR.out.keep h) (by have := F.p; omega) (HK.out.keep h) (by have := F.k; omega) HN.out,
      rstep_any L Ap pos cp A way c head len speed x br C B cb K ck want w' (HL.out.keep h) F.lay.els F.lay.jts F.els (HP.out.below h (Nat.le_refl _)) HPM.out (HR.out.keep h) HC.out (by have := F.way; omega) (HPR.out.keep h) HPC.out (HK.out.keep h) HKC.out HN.out⟩⟩
  clear hR
  clear hL hT hp hr hpr hk hn hc hpc hkc hpm
  go_enter Tryd.func5, Tryd.ntmps5
  go_upto_region 1 with (fail)
  rw [← hw]
  clear hw
  obtain ⟨l0, a0, a1, a2, a3, a4, a5⟩ := layAt_cells L1.out
  go_wp2_with (refine wp_ldN 49 [.slice A way.length c, .int .i64 head, .int .i64 len, .int .i64 speed, .int .i64 x, .int .i64 br, .int .i64 C.T.id, .string C.T.name, .int .i64 C.T.len, .int .i64 C.T.speed, .int .i64 C.T.accel, .int .i64 C.T.service, .int .i64 C.T.emergency, .int .i64 C.T.delay, .int .i64 C.T.cons, .int .i64 C.T.rate, .int .i64 C.mode, .int .i64 C.brake, .int .i64 C.next, .int .i64 C.emin, .int .i64 C.emax, .int .i64 C.espeed, .int .i64 C.seq, .int .i64 C.en, .slice B C.p.length cb, .slice K C.k.length ck, .int .i64 C.peer, .int .i64 C.out, .int .i64 C.inn, .int .i64 C.heard, .bool C.known, .int .i64 C.since] rfl rfl rfl O1.out.cells Tryd.underlying49 szUnt rfl ?_)
  clear l0 a0 a1 a2 a3 a4 a5
  refine (HFW.out _ E1.out).mono ?_
  rintro e w2 ⟨bb, rfl, hP, hb⟩
  have HF := Lib.hid hP
  have E2 := Lib.hid (etr E1.out hb)
  have L2 : Hid (LayAt w2 w.heap.size L) := L1.out.keep hb
  have O2 := Lib.hid (O1.out.keep hb)
  clear hP hb
  cases bb
  · go_wp2_with fail
    refine (HAL.out _ E2.out).mono ?_
    rintro e w3 ⟨rfl, hb⟩
    have E3 := Lib.hid (etr E2.out hb)
    clear hb
    go_wp2
    go_ret
    exact ⟨rfl, E3.out⟩
  have HFF := Lib.hid (HF.out rfl)
  have HSS := Lib.hid (HST.out HFF.out)
  clear HF HST
  obtain ⟨l0, a0, a1, a2, a3, a4, a5⟩ := layAt_cells L2.out
  go_wp2_with (refine wp_ldN 49 [.slice A way.length c, .int .i64 head, .int .i64 len, .int .i64 speed, .int .i64 x, .int .i64 br, .int .i64 C.T.id, .string C.T.name, .int .i64 C.T.len, .int .i64 C.T.speed, .int .i64 C.T.accel, .int .i64 C.T.service, .int .i64 C.T.emergency, .int .i64 C.T.delay, .int .i64 C.T.cons, .int .i64 C.T.rate, .int .i64 C.mode, .int .i64 C.brake, .int .i64 C.next, .int .i64 C.emin, .int .i64 C.emax, .int .i64 C.espeed, .int .i64 C.seq, .int .i64 C.en, .slice B C.p.length cb, .slice K C.k.length ck, .int .i64 C.peer, .int .i64 C.out, .int .i64 C.inn, .int .i64 C.heard, .bool C.known, .int .i64 C.since] rfl rfl rfl O2.out.cells Tryd.underlying49 szUnt rfl ?_)
  clear l0 a0 a1 a2 a3 a4 a5
  refine (HSS.out.2 _ E2.out).1.mono ?_
  rintro e w3 ⟨A1, c1, B1, cb1, K1, ck1, rfl, hr1, hp1, hk1, hb⟩
  have E3 := Lib.hid (etr E2.out hb)
  have L3 : Hid (LayAt w3 w.heap.size L) := L2.out.keep hb
  have O3 := Lib.hid (O2.out.keep hb)
  have R3 := Lib.hid hr1
  have P3 := Lib.hid hp1
  have K3 := Lib.hid hk1
  clear hr1 hp1 hk1 hb
  go_upto_region 4 with (refine wp_stN 49 [.slice A1 R.steps.length c1, .int .i64 R.head, .int .i64 len, .int .i64 R.speed, .int .i64 R.x, .int .i64 R.braking, .int .i64 C.T.id, .string C.T.name, .int .i64 C.T.len, .int .i64 C.T.speed, .int .i64 C.T.accel, .int .i64 C.T.service, .int .i64 C.T.emergency, .int .i64 C.T.delay, .int .i64 C.T.cons, .int .i64 C.T.rate, .int .i64 C.mode, .int .i64 C.brake, .int .i64 C.next, .int .i64 C.emin, .int .i64 C.emax, .int .i64 C.espeed, .int .i64 C.seq, .int .i64 C.en, .slice B1 C.p.length cb1, .slice K1 C.k.length ck1, .int .i64 C.peer, .int .i64 C.out, .int .i64 C.inn, .int .i64 C.heard, .bool C.known, .int .i64 C.since] [.slice A1 R.steps.length c1, .int .i64 R.head, .int .i64 len, .int .i64 R.speed, .int .i64 R.x, .int .i64 R.braking, .int .i64 C.T.id, .string C.T.name, .int .i64 C.T.len, .int .i64 C.T.speed, .int .i64 C.T.accel, .int .i64 C.T.service, .int .i64 C.T.emergency, .int .i64 C.T.delay, .int .i64 C.T.cons, .int .i64 C.T.rate, .int .i64 C.mode, .int .i64 C.brake, .int .i64 C.next, .int .i64 C.emin, .int .i64 C.emax, .int .i64 C.espeed, .int .i64 C.seq, .int .i64 C.en, .slice B1 C.p.length cb1, .slice K1 C.k.length ck1, .int .i64 C.peer, .int .i64 C.out, .int .i64 C.inn, .int .i64 C.heard, .bool C.known, .int .i64 C.since] rfl rfl rfl (Own.new (w := w3) (cs := #[.slice none 0 0, .int .i64 0, .int .i64 0, .int .i64 0, .int .i64 0, .int .i64 0, .int .i64 0, .string ⟨#[]⟩, .int .i64 0, .int .i64 0, .int .i64 0, .int .i64 0, .int .i64 0, .int .i64 0, .int .i64 0, .int .i64 0, .int .i64 0, .int .i64 0, .int .i64 0, .int .i64 0, .int .i64 0, .int .i64 0, .int .i64 0, .int .i64 0, .slice none 0 0, .slice none 0 0, .int .i64 0, .int .i64 0, .int .i64 0, .int .i64 0, .bool false, .int .i64 0]) (t := 49) rfl) rfl szUnt rfl (by show (0 + 32 : Nat) ≤ 32; decide) rfl ?_; intro w4 H4)
  have g4 : Ext w3 w4 := eonly (eal (Ext.refl _) _) H4.out.2 (Nat.le_refl _)
  have E4 := Lib.hid (etr E3.out g4)
  have L4 : Hid (LayAt w4 w.heap.size L) := L3.out.keep g4
  have O4 := Lib.hid (O3.out.keep g4)
  have N4 := Lib.hid H4.out.1
  have R4 := Lib.hid (R3.out.1.keep g4)
  have P4 := Lib.hid (P3.out.1.keep g4)
  have K4 := Lib.hid (K3.out.1.keep g4)
  clear g4
  obtain ⟨l0, a0, a1, a2, a3, a4, a5⟩ := layAt_cells L4.out
  go_wp2_with (refine wp_ldN 49 [.slice A way.length c, .int .i64 head, .int .i64 len, .int .i64 speed, .int .i64 x, .int .i64 br, .int .i64 C.T.id, .string C.T.name, .int .i64 C.T.len, .int .i64 C.T.speed, .int .i64 C.T.accel, .int .i64 C.T.service, .int .i64 C.T.emergency, .int .i64 C.T.delay, .int .i64 C.T.cons, .int .i64 C.T.rate, .int .i64 C.mode, .int .i64 C.brake, .int .i64 C.next, .int .i64 C.emin, .int .i64 C.emax, .int .i64 C.espeed, .int .i64 C.seq, .int .i64 C.en, .slice B C.p.length cb, .slice K C.k.length ck, .int .i64 C.peer, .int .i64 C.out, .int .i64 C.inn, .int .i64 C.heard, .bool C.known, .int .i64 C.since] rfl rfl rfl O4.out.cells Tryd.underlying49 szUnt rfl ?_)
  clear l0 a0 a1 a2 a3 a4 a5
  refine (HSS.out.2 _ E4.out).2.mono ?_
  rintro e w5 ⟨A2, c2, B2, cb2, K2, ck2, rfl, hr1, hp1, hk1, hb⟩
  have E5 := Lib.hid (etr E4.out hb)
  have N5 := Lib.hid (N4.out.keep hb)
  have R5 := Lib.hid (R4.out.keep hb)
  have P5 := Lib.hid (P4.out.keep hb)
  have K5 := Lib.hid (K4.out.keep hb)
  have R5b := Lib.hid hr1
  have P5b := Lib.hid hp1
  have K5b := Lib.hid hk1
  clear hr1 hp1 hk1 hb
  go_upto_region 5 with (refine wp_stN 49 [.slice A2 R.steps.length c2, .int .i64 R.head, .int .i64 len, .int .i64 R.speed, .int .i64 R.x, .int .i64 R.braking, .int .i64 C.T.id, .string C.T.name, .int .i64 C.T.len, .int .i64 C.T.speed, .int .i64 C.T.accel, .int .i64 C.T.service, .int .i64 C.T.emergency, .int .i64 C.T.delay, .int .i64 C.T.cons, .int .i64 C.T.rate, .int .i64 C.mode, .int .i64 C.brake, .int .i64 C.next, .int .i64 C.emin, .int .i64 C.emax, .int .i64 C.espeed, .int .i64 C.seq, .int .i64 C.en, .slice B2 C.p.length cb2, .slice K2 C.k.length ck2, .int .i64 C.peer, .int .i64 C.out, .int .i64 C.inn, .int .i64 C.heard, .bool C.known, .int .i64 C.since] [.slice A2 R.steps.length c2, .int .i64 R.head, .int .i64 len, .int .i64 R.speed, .int .i64 R.x, .int .i64 R.braking, .int .i64 C.T.id, .string C.T.name, .int .i64 C.T.len, .int .i64 C.T.speed, .int .i64 C.T.accel, .int .i64 C.T.service, .int .i64 C.T.emergency, .int .i64 C.T.delay, .int .i64 C.T.cons, .int .i64 C.T.rate, .int .i64 C.mode, .int .i64 C.brake, .int .i64 C.next, .int .i64 C.emin, .int .i64 C.emax, .int .i64 C.espeed, .int .i64 C.seq, .int .i64 C.en, .slice B2 C.p.length cb2, .slice K2 C.k.length ck2, .int .i64 C.peer, .int .i64 C.out, .int .i64 C.inn, .int .i64 C.heard, .bool C.known, .int .i64 C.since] rfl rfl rfl (Own.new (w := w5) (cs := #[.slice none 0 0, .int .i64 0, .int .i64 0, .int .i64 0, .int .i64 0, .int .i64 0, .int .i64 0, .string ⟨#[]⟩, .int .i64 0, .int .i64 0, .int .i64 0, .int .i64 0, .int .i64 0, .int .i64 0, .int .i64 0, .int .i64 0, .int .i64 0, .int .i64 0, .int .i64 0, .int .i64 0, .int .i64 0, .int .i64 0, .int .i64 0, .int .i64 0, .slice none 0 0, .slice none 0 0, .int .i64 0, .int .i64 0, .int .i64 0, .int .i64 0, .bool false, .int .i64 0]) (t := 49) rfl) rfl szUnt rfl (by show (0 + 32 : Nat) ≤ 32; decide) rfl ?_; intro w6 H6)
  have g6 : Ext w5 w6 := eonly (eal (Ext.refl _) _) H6.out.2 (Nat.le_refl _)
  have E6 := Lib.hid (etr E5.out g6)
  have N6 := Lib.hid (N5.out.keep g6)
  have M6 := Lib.hid H6.out.1
  have HSM : Hid (∀ w', Ext w6 w' → Calls Tryd.prog 19 #[.agg #[.slice A1 R.steps.length c1, .int .i64 R.head, .int .i64 len, .int .i64 R.speed, .int .i64 R.x, .int .i64 R.braking, .int .i64 C.T.id, .string C.T.name, .int .i64 C.T.len, .int .i64 C.T.speed, .int .i64 C.T.accel, .int .i64 C.T.service, .int .i64 C.T.emergency, .int .i64 C.T.delay, .int .i64 C.T.cons, .int .i64 C.T.rate, .int .i64 C.mode, .int .i64 C.brake, .int .i64 C.next, .int .i64 C.emin, .int .i64 C.emax, .int .i64 C.espeed, .int .i64 C.seq, .int .i64 C.en, .slice B1 C.p.length cb1, .slice K1 C.k.length ck1, .int .i64 C.peer, .int .i64 C.out, .int .i64 C.inn, .int .i64 C.heard, .bool C.known, .int .i64 C.since], .agg #[.slice A2 R.steps.length c2, .int .i64 R.head, .int .i64 len, .int .i64 R.speed, .int .i64 R.x, .int .i64 R.braking, .int .i64 C.T.id, .string C.T.name, .int .i64 C.T.len, .int .i64 C.T.speed, .int .i64 C.T.accel, .int .i64 C.T.service, .int .i64 C.T.emergency, .int .i64 C.T.delay, .int .i64 C.T.cons, .int .i64 C.T.rate, .int .i64 C.mode, .int .i64 C.brake, .int .i64 C.next, .int .i64 C.emin, .int .i64 C.emax, .int .i64 C.espeed, .int .i64 C.seq, .int .i64 C.en, .slice B2 C.p.length cb2, .slice K2 C.k.length ck2, .int .i64 C.peer, .int .i64 C.out, .int .i64 C.inn, .int .i64 C.heard, .bool C.known, .int .i64 C.since]] w' fun e w2 => e = .returned (.bool true) ∧ Below w'.heap.size w' w2) := fun w' h =>
    sameU_any A1 R.steps c1 R.head len R.speed R.x R.braking C B1 cb1 K1 ck1 A2 c2 B2 cb2 K2 ck2 w' ((R5.out.keep g6).keep h) ((R5b.out.1.keep g6).keep h) (by have := HSS.out.1; unfold maxLen; omega) ((P5.out.keep g6).keep h) ((P5b.out.1.keep g6).keep h) (by have := HFF.out.p; unfold maxLen; omega) ((K5.out.keep g6).keep h) ((K5b.out.1.keep g6).keep h) (by have := HFF.out.k; unfold maxLen; omega)
  clear g6
  go_wp2_with (first | (refine wp_ldN 49 [.slice A1 R.steps.length c1, .int .i64 R.head, .int .i64 len, .int .i64 R.speed, .int .i64 R.x, .int .i64 R.braking, .int .i64 C.T.id, .string C.T.name, .int .i64 C.T.len, .int .i64 C.T.speed, .int .i64 C.T.accel, .int .i64 C.T.service, .int .i64 C.T.emergency, .int .i64 C.T.delay, .int .i64 C.T.cons, .int .i64 C.T.rate, .int .i64 C.mode, .int .i64 C.brake, .int .i64 C.next, .int .i64 C.emin, .int .i64 C.emax, .int .i64 C.espeed, .int .i64 C.seq, .int .i64 C.en, .slice B1 C.p.length cb1, .slice K1 C.k.length ck1, .int .i64 C.peer, .int .i64 C.out, .int .i64 C.inn, .int .i64 C.heard, .bool C.known, .int .i64 C.since] rfl rfl rfl N6.out.cells Tryd.underlying49 szUnt rfl ?_) | (refine wp_ldN 49 [.slice A2 R.steps.length c2, .int .i64 R.head, .int .i64 len, .int .i64 R.speed, .int .i64 R.x, .int .i64 R.braking, .int .i64 C.T.id, .string C.T.name, .int .i64 C.T.len, .int .i64 C.T.speed, .int .i64 C.T.accel, .int .i64 C.T.service, .int .i64 C.T.emergency, .int .i64 C.T.delay, .int .i64 C.T.cons, .int .i64 C.T.rate, .int .i64 C.mode, .int .i64 C.brake, .int .i64 C.next, .int .i64 C.emin, .int .i64 C.emax, .int .i64 C.espeed, .int .i64 C.seq, .int .i64 C.en, .slice B2 C.p.length cb2, .slice K2 C.k.length ck2, .int .i64 C.peer, .int .i64 C.out, .int .i64 C.inn, .int .i64 C.heard, .bool C.known, .int .i64 C.since] rfl rfl rfl M6.out.cells Tryd.underlying49 szUnt rfl ?_))
  refine (HSM.out _ (Ext.refl _)).mono ?_
  rintro e w7 ⟨rfl, hb⟩
  have E7 := Lib.hid (etr E6.out hb)
  clear hb
  go_wp2_with fail
  refine (HAL.out _ E7.out).mono ?_
  rintro e w8 ⟨rfl, hb⟩
  have E8 := Lib.hid (etr E7.out hb)
  clear hb
  go_wp2
  go_ret
  exact ⟨rfl, E8.out⟩
end
end Go.Proofs.YticonpjkcocgeaaDoor
