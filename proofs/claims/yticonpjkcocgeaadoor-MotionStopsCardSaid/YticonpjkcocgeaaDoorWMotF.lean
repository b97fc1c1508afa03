/- Walk of the reference's Step. Printed by gen_motf.py. -/
import Derived.Test.YticonpjkcocgeaaDoorWMotE
import Derived.Test.YticonpjkcocgeaaDoorWMovB
set_option linter.unusedVariables false
set_option linter.unusedSimpArgs false
set_option maxRecDepth 100000
namespace Go.Proofs.YticonpjkcocgeaaDoor
open Go.ChangeShapes Go.WideShapes Go.ChangeAt Go.RowKit
open Sg

section
set_option maxHeartbeats 16000000
theorem rstep_any (L : Lay) (Ap : Option Addr) (pos : List Int) (cp : Nat) (A : Option Addr) (way : List Stp) (c : Nat) (head len speed x br : Int) (C : Cu) (B : Option Addr) (cb : Nat) (K : Option Addr) (ck : Nat) (want : Int) (w : World) (hL : LayOk w L) (hE : ElsOk L.els) (hJ : JtsOk L.els L.jts) (h32 : L.els.length ≤ 32) (hp : RdI w Ap pos) (hpm : pos.length ≤ maxLen) (hr : Rd w A 3 Stc way) (hc : way.length ≤ c) (hm : way.length ≤ 200) (hpr : Rd w B 4 Sgc C.p) (hpc : C.p.length ≤ cb) (hk : Rd w K 2 Lkc C.k) (hkc : C.k.length ≤ ck) (hn : C.T.name.size ≤ maxLen) :
    Calls Tryd.prog 18 #[.agg #[.string L.name, .slice L.aS L.secs.length L.cS, .slice L.aE L.els.length L.cE, .slice L.aJ L.jts.length L.cJ, .slice L.aG L.sgs.length L.cG, .slice L.aB L.bals.length L.cB], .slice Ap pos.length cp, .agg #[.slice A way.length c, .int .i64 head, .int .i64 len, .int .i64 speed, .int .i64 x, .int .i64 br, .int .i64 C.T.id, .string C.T.name, .int .i64 C.T.len, .int .i64 C.T.speed, .int .i64 C.T.accel, .int .i64 C.T.service, .int .i64 C.T.emergency, .int .i64 C.T.delay, .int .i64 C.T.cons, .int .i64 C.T.rate, .int .i64 C.mode, .int .i64 C.brake, .int .i64 C.next, .int .i64 C.emin, .int .i64 C.emax, .int .i64 C.espeed, .int .i64 C.seq, .int .i64 C.en, .slice B C.p.length cb, .slice K C.k.length ck, .int .i64 C.peer, .int .i64 C.out, .int .i64 C.inn, .int .i64 C.heard, .bool C.known, .int .i64 C.since], .int .i64 want] w (StepRet w len C (stepV L.els L.jts pos C.T C.brake way head len speed x br want)) := by
  have HL := Lib.hid hL
  have HE := Lib.hid hE
  have HJ := Lib.hid hJ
  have H32 := Lib.hid h32
  have HP := Lib.hid hp
  have HPM := Lib.hid hpm
  have HM := Lib.hid hm
  have HR := Lib.hid hr
  have HC := Lib.hid hc
  have HB := Lib.hid hpr
  have HBc := Lib.hid hpc
  have HK := Lib.hid hk
  have HKc := Lib.hid hkc
  obtain ⟨gb, hgb⟩ : ∃ gb, gb = goodB L.els L.jts C.T way head len speed x br := ⟨_, rfl⟩
  have HGB := Lib.hid hgb
  have HGD : Hid (∀ (w' : World), Ext w w' → Calls Tryd.prog 12 #[.agg #[.string L.name, .slice L.aS L.secs.length L.cS, .slice L.aE L.els.length L.cE, .slice L.aJ L.jts.length L.cJ, .slice L.aG L.sgs.length L.cG, .slice L.aB L.bals.length L.cB], .agg #[.slice A way.length c, .int .i64 head, .int .i64 len, .int .i64 speed, .int .i64 x, .int .i64 br, .int .i64 C.T.id, .string C.T.name, .int .i64 C.T.len, .int .i64 C.T.speed, .int .i64 C.T.accel, .int .i64 C.T.service, .int .i64 C.T.emergency, .int .i64 C.T.delay, .int .i64 C.T.cons, .int .i64 C.T.rate, .int .i64 C.mode, .int .i64 C.brake, .int .i64 C.next, .int .i64 C.emin, .int .i64 C.emax, .int .i64 C.espeed, .int .i64 C.seq, .int .i64 C.en, .slice B C.p.length cb, .slice K C.k.length ck, .int .i64 C.peer, .int .i64 C.out, .int .i64 C.inn, .int .i64 C.heard, .bool C.known, .int .i64 C.since]] w' fun e w2 => e = .returned (.bool gb) ∧ Below w'.heap.size w' w2) := fun w' h1 => by
    have := rgood_any L A way c head len speed x br C B cb K ck w' (HL.out.keep h1) HE.out (HR.out.keep h1) HM.out HC.out hn
    rw [← HGB.out] at this; exact this
  clear hL hE hJ h32 hp hpm hr hc hm hpr hpc hk hkc hn hgb
  have HOW : Hid (Own (((w.alloc (.cells #[.string L.name, .slice L.aS L.secs.length L.cS, .slice L.aE L.els.length L.cE, .slice L.aJ L.jts.length L.cJ, .slice L.aG L.sgs.length L.cG, .slice L.aB L.bals.length L.cB] 28)).alloc (.cells #[.slice A way.length c, .int .i64 head, .int .i64 len, .int .i64 speed, .int .i64 x, .int .i64 br, .int .i64 C.T.id, .string C.T.name, .int .i64 C.T.len, .int .i64 C.T.speed, .int .i64 C.T.accel, .int .i64 C.T.service, .int .i64 C.T.emergency, .int .i64 C.T.delay, .int .i64 C.T.cons, .int .i64 C.T.rate, .int .i64 C.mode, .int .i64 C.brake, .int .i64 C.next, .int .i64 C.emin, .int .i64 C.emax, .int .i64 C.espeed, .int .i64 C.seq, .int .i64 C.en, .slice B C.p.length cb, .slice K C.k.length ck, .int .i64 C.peer, .int .i64 C.out, .int .i64 C.inn, .int .i64 C.heard, .bool C.known, .int .i64 C.since] 49)).alloc (.cells #[.slice none 0 0, .int .i64 0, .int .i64 0, .int .i64 0, .int .i64 0, .int .i64 0, .int .i64 0, .string ⟨#[]⟩, .int .i64 0, .int .i64 0, .int .i64 0, .int .i64 0, .int .i64 0, .int .i64 0, .int .i64 0, .int .i64 0, .int .i64 0, .int .i64 0, .int .i64 0, .int .i64 0, .int .i64 0, .int .i64 0, .int .i64 0, .int .i64 0, .slice none 0 0, .slice none 0 0, .int .i64 0, .int .i64 0, .int .i64 0, .int .i64 0, .bool false, .int .i64 0] 49)) (w.heap.size + 1) [.slice A way.length c, .int .i64 head, .int .i64 len, .int .i64 speed, .int .i64 x, .int .i64 br, .int .i64 C.T.id, .string C.T.name, .int .i64 C.T.len, .int .i64 C.T.speed, .int .i64 C.T.accel, .int .i64 C.T.service, .int .i64 C.T.emergency, .int .i64 C.T.delay, .int .i64 C.T.cons, .int .i64 C.T.rate, .int .i64 C.mode, .int .i64 C.brake, .int .i64 C.next, .int .i64 C.emin, .int .i64 C.emax, .int .i64 C.espeed, .int .i64 C.seq, .int .i64 C.en, .slice B C.p.length cb, .slice K C.k.length ck, .int .i64 C.peer, .int .i64 C.out, .int .i64 C.inn, .int .i64 C.heard, .bool C.known, .int .i64 C.since]) := (Own.new (by simp)).alloc _
  have HPW : Hid (Own (((w.alloc (.cells #[.string L.name, .slice L.aS L.secs.length L.cS, .slice L.aE L.els.length L.cE, .slice L.aJ L.jts.length L.cJ, .slice L.aG L.sgs.length L.cG, .slice L.aB L.bals.length L.cB] 28)).alloc (.cells #[.slice A way.length c, .int .i64 head, .int .i64 len, .int .i64 speed, .int .i64 x, .int .i64 br, .int .i64 C.T.id, .string C.T.name, .int .i64 C.T.len, .int .i64 C.T.speed, .int .i64 C.T.accel, .int .i64 C.T.service, .int .i64 C.T.emergency, .int .i64 C.T.delay, .int .i64 C.T.cons, .int .i64 C.T.rate, .int .i64 C.mode, .int .i64 C.brake, .int .i64 C.next, .int .i64 C.emin, .int .i64 C.emax, .int .i64 C.espeed, .int .i64 C.seq, .int .i64 C.en, .slice B C.p.length cb, .slice K C.k.length ck, .int .i64 C.peer, .int .i64 C.out, .int .i64 C.inn, .int .i64 C.heard, .bool C.known, .int .i64 C.since] 49)).alloc (.cells #[.slice none 0 0, .int .i64 0, .int .i64 0, .int .i64 0, .int .i64 0, .int .i64 0, .int .i64 0, .string ⟨#[]⟩, .int .i64 0, .int .i64 0, .int .i64 0, .int .i64 0, .int .i64 0, .int .i64 0, .int .i64 0, .int .i64 0, .int .i64 0, .int .i64 0, .int .i64 0, .int .i64 0, .int .i64 0, .int .i64 0, .int .i64 0, .int .i64 0, .slice none 0 0, .slice none 0 0, .int .i64 0, .int .i64 0, .int .i64 0, .int .i64 0, .bool false, .int .i64 0] 49)) (w.heap.size + 1 + 1) [.slice none 0 0, .int .i64 0, .int .i64 0, .int .i64 0, .int .i64 0, .int .i64 0, .int .i64 0, .string ⟨#[]⟩, .int .i64 0, .int .i64 0, .int .i64 0, .int .i64 0, .int .i64 0, .int .i64 0, .int .i64 0, .int .i64 0, .int .i64 0, .int .i64 0, .int .i64 0, .int .i64 0, .int .i64 0, .int .i64 0, .int .i64 0, .int .i64 0, .slice none 0 0, .slice none 0 0, .int .i64 0, .int .i64 0, .int .i64 0, .int .i64 0, .bool false, .int .i64 0]) := Own.new (by simp)
  go_enter Tryd.func18, Tryd.ntmps18
  cases gb
  · have HV : Hid (stepV L.els L.jts pos C.T C.brake way head len speed x br want = ⟨way, head, speed, x, br, 0, false⟩) := stepV_no HGB.out.symm
    go_wp2_with (first | (refine wp_ldN 49 [.slice A way.length c, .int .i64 head, .int .i64 len, .int .i64 speed, .int .i64 x, .int .i64 br, .int .i64 C.T.id, .string C.T.name, .int .i64 C.T.len, .int .i64 C.T.speed, .int .i64 C.T.accel, .int .i64 C.T.service, .int .i64 C.T.emergency, .int .i64 C.T.delay, .int .i64 C.T.cons, .int .i64 C.T.rate, .int .i64 C.mode, .int .i64 C.brake, .int .i64 C.next, .int .i64 C.emin, .int .i64 C.emax, .int .i64 C.espeed, .int .i64 C.seq, .int .i64 C.en, .slice B C.p.length cb, .slice K C.k.length ck, .int .i64 C.peer, .int .i64 C.out, .int .i64 C.inn, .int .i64 C.heard, .bool C.known, .int .i64 C.since] rfl rfl rfl HOW.out.cells Tryd.underlying49 szUnt rfl ?_) | (go_at_call 12; refine (to_after (HGD.out _ (eal (eal (eal (Ext.refl _) _) _) _))).mono ?_; rintro e w3 ⟨y, rfl, rfl⟩; have O3 := Lib.hid (HOW.out.keep y.is); have P3 := Lib.hid (HPW.out.keep y.is); have X3 : Hid (Ext w y.val) := etr (eal (eal (eal (Ext.refl _) _) _) _) y.is) | (refine wp_ldN 49 [.slice A way.length c, .int .i64 head, .int .i64 len, .int .i64 speed, .int .i64 x, .int .i64 br, .int .i64 C.T.id, .string C.T.name, .int .i64 C.T.len, .int .i64 C.T.speed, .int .i64 C.T.accel, .int .i64 C.T.service, .int .i64 C.T.emergency, .int .i64 C.T.delay, .int .i64 C.T.cons, .int .i64 C.T.rate, .int .i64 C.mode, .int .i64 C.brake, .int .i64 C.next, .int .i64 C.emin, .int .i64 C.emax, .int .i64 C.espeed, .int .i64 C.seq, .int .i64 C.en, .slice B C.p.length cb, .slice K C.k.length ck, .int .i64 C.peer, .int .i64 C.out, .int .i64 C.inn, .int .i64 C.heard, .bool C.known, .int .i64 C.since] rfl rfl rfl O3.out.cells Tryd.underlying49 szUnt rfl ?_) | (refine wp_stN 49 [.slice A way.length c, .int .i64 head, .int .i64 len, .int .i64 speed, .int .i64 x, .int .i64 br, .int .i64 C.T.id, .string C.T.name, .int .i64 C.T.len, .int .i64 C.T.speed, .int .i64 C.T.accel, .int .i64 C.T.service, .int .i64 C.T.emergency, .int .i64 C.T.delay, .int .i64 C.T.cons, .int .i64 C.T.rate, .int .i64 C.mode, .int .i64 C.brake, .int .i64 C.next, .int .i64 C.emin, .int .i64 C.emax, .int .i64 C.espeed, .int .i64 C.seq, .int .i64 C.en, .slice B C.p.length cb, .slice K C.k.length ck, .int .i64 C.peer, .int .i64 C.out, .int .i64 C.inn, .int .i64 C.heard, .bool C.known, .int .i64 C.since] [.slice A way.length c, .int .i64 head, .int .i64 len, .int .i64 speed, .int .i64 x, .int .i64 br, .int .i64 C.T.id, .string C.T.name, .int .i64 C.T.len, .int .i64 C.T.speed, .int .i64 C.T.accel, .int .i64 C.T.service, .int .i64 C.T.emergency, .int .i64 C.T.delay, .int .i64 C.T.cons, .int .i64 C.T.rate, .int .i64 C.mode, .int .i64 C.brake, .int .i64 C.next, .int .i64 C.emin, .int .i64 C.emax, .int .i64 C.espeed, .int .i64 C.seq, .int .i64 C.en, .slice B C.p.length cb, .slice K C.k.length ck, .int .i64 C.peer, .int .i64 C.out, .int .i64 C.inn, .int .i64 C.heard, .bool C.known, .int .i64 C.since] rfl rfl rfl P3.out rfl szUnt rfl (by show (0 + 32 : Nat) ≤ 32; decide) rfl ?_; intro w4 H4))
    refine bodyPost_ret (res_utt (by rfl) (by rfl) (by rfl) (by rfl) H4.out.1.cells Tryd.underlying49 szUnt) rfl ?_
    have X4 := Lib.hid (eonly X3.out H4.out.2 (by omega))
    refine ⟨A, c, B, cb, K, ck, by rw [HV.out]; rfl, ?_, ⟨HB.out.keep X4.out, HBc.out⟩, ⟨HK.out.keep X4.out, HKc.out⟩, X4.out⟩
    rw [HV.out]
    exact ⟨HR.out.keep X4.out, HC.out⟩
  have hG := goodB_true.1 HGB.out.symm
  have hTr := chkE_ok hG.tr
  have HTR := Lib.hid hTr
  have hsp := hG.speed
  have hx := hG.x
  have hbr := hG.braking
  have HCK := Lib.hid hG.body
  obtain ⟨gv, hgv⟩ : ∃ gv, gv = gradV L.els L.jts way head len := ⟨_, rfl⟩
  obtain ⟨v', hv'⟩ : ∃ v', v' = newV C.T speed gv C.brake br want := ⟨_, rfl⟩
  obtain ⟨b', hb'⟩ : ∃ b', b' = newB C.brake br := ⟨_, rfl⟩
  obtain ⟨m, hmv⟩ : ∃ m, m = moveV L.els L.jts pos len way head v' := ⟨_, rfl⟩
  have HGV := Lib.hid hgv
  have HVV := Lib.hid hv'
  have HBB := Lib.hid hb'
  have hE5 : ∀ el, hasEl L.els el → 500 ≤ (elAt L.els el).len := fun el h => by
    obtain ⟨k, q, _, hq, e⟩ := has_at h
    rw [e]; exact (HE.out k q hq).2.2.1
  have hmn := moveV_n (pos := pos) (len := len) (l := way) (head := head) (d := v') hE5 (join_has HJ.out) H32.out
  rw [← hmv] at hmn
  have HGR : Hid (∀ w' : World, Ext w w' → Calls Tryd.prog 23 #[.agg #[.string L.name, .slice L.aS L.secs.length L.cS, .slice L.aE L.els.length L.cE, .slice L.aJ L.jts.length L.cJ, .slice L.aG L.sgs.length L.cG, .slice L.aB L.bals.length L.cB], .agg #[.slice A way.length c, .int .i64 head, .int .i64 len]] w' fun e w2 => e = .returned (.int .i64 gv) ∧ Below w'.heap.size w' w2) := fun w' h1 => by
    have := rgrade_any L A way c head len w' (HL.out.keep h1) HE.out (HR.out.keep h1) HM.out HC.out
    rw [← hgv] at this; exact this
  have HMO : Hid (∀ w' : World, Ext w w' → Calls Tryd.prog 49 #[.agg #[.string L.name, .slice L.aS L.secs.length L.cS, .slice L.aE L.els.length L.cE, .slice L.aJ L.jts.length L.cJ, .slice L.aG L.sgs.length L.cG, .slice L.aB L.bals.length L.cB], .slice Ap pos.length cp, .agg #[.slice A way.length c, .int .i64 head, .int .i64 len], .int .i64 v'] w' fun e w2 => ∃ A2 c2, (∀ a, A2 = some a → w'.heap.size ≤ a.block) ∧ e = .returned (.tuple #[.agg #[.slice A2 m.steps.length c2, .int .i64 m.head, .int .i64 len], .int .i64 m.moved, .bool m.ended]) ∧ Rd w2 A2 3 Stc m.steps ∧ m.steps.length ≤ c2 ∧ Below w'.heap.size w' w2) := fun w' h1 => by
    have := rmove_any L Ap pos cp A way c head len v' w' (HL.out.keep h1) HE.out HJ.out H32.out (HR.out.keep h1) HC.out (HP.out.below h1 (Nat.le_refl _)) HPM.out HM.out
    rw [← hmv] at this
    refine this.mono ?_
    rintro e w2 ⟨A2, c2, z1, z2, z3, z4, z5⟩
    exact ⟨A2, c2, z1 HCK.out, z2, z3, z4, z5⟩
  have HSV := Lib.hid (stepV_yes (pos := pos) (br := C.brake) (want := want) HGB.out.symm (v := v') (by rw [← hgv]; exact hv') hmv)
  have n9 : IntKind.i64.wrap (x + m.moved) = x + m.moved := IntWalk.i64_in _ (by omega)
  rw [← hb'] at HSV
  obtain ⟨mst, mh, mm, me⟩ := m
  simp only [] at HMO HSV n9
  clear hG hTr hx hgv hmv hE5 hmn
  go_upto_region 5 with (first | (refine wp_ldN 49 [.slice A way.length c, .int .i64 head, .int .i64 len, .int .i64 speed, .int .i64 x, .int .i64 br, .int .i64 C.T.id, .string C.T.name, .int .i64 C.T.len, .int .i64 C.T.speed, .int .i64 C.T.accel, .int .i64 C.T.service, .int .i64 C.T.emergency, .int .i64 C.T.delay, .int .i64 C.T.cons, .int .i64 C.T.rate, .int .i64 C.mode, .int .i64 C.brake, .int .i64 C.next, .int .i64 C.emin, .int .i64 C.emax, .int .i64 C.espeed, .int .i64 C.seq, .int .i64 C.en, .slice B C.p.length cb, .slice K C.k.length ck, .int .i64 C.peer, .int .i64 C.out, .int .i64 C.inn, .int .i64 C.heard, .bool C.known, .int .i64 C.since] rfl rfl rfl HOW.out.cells Tryd.underlying49 szUnt rfl ?_) | (go_at_call 12; refine (to_after (HGD.out _ (eal (eal (eal (Ext.refl _) _) _) _))).mono ?_; rintro e w3 ⟨y, rfl, rfl⟩; have O3 := Lib.hid (HOW.out.keep y.is); have P3 := Lib.hid (HPW.out.keep y.is); have X3 : Hid (Ext w y.val) := etr (eal (eal (eal (Ext.refl _) _) _) _) y.is; have L3 : Hid (LayAt y.val w.heap.size L) := (CellsAt.keep (CellsAt.keep (CellsAt.new rfl) (eal (Ext.refl _) _)) (eal (Ext.refl _) _)).keep y.is; obtain ⟨l0, a0, a1, a2, a3, a4, a5⟩ := layAt_cells L3.out; have u0 := O3.out.2.1 0 _ rfl; have u1 := O3.out.2.1 1 _ rfl; have u2 := O3.out.2.1 2 _ rfl; have uz := O3.out.1; have lu := lt_up l0; have uu := lt_up uz) | (refine wp_ldN 35 [.int .i64 C.T.id, .string C.T.name, .int .i64 C.T.len, .int .i64 C.T.speed, .int .i64 C.T.accel, .int .i64 C.T.service, .int .i64 C.T.emergency, .int .i64 C.T.delay, .int .i64 C.T.cons, .int .i64 C.T.rate] rfl rfl rfl O3.out.cells Tryd.underlying35 szTr rfl ?_) | (go_at_call 23; refine (to_after (HGR.out _ (eal X3.out _))).mono ?_; rintro e w4 ⟨z, rfl, rfl⟩))
  obtain ⟨b11, hb11⟩ : ∃ b11, b11 = y.val.heap.size := ⟨_, rfl⟩
  have hbb : w.heap.size + 1 + 1 < b11 := by have := P3.out.1; omega
  obtain ⟨w4, hw4⟩ : ∃ q0, q0 = z.val := ⟨_, rfl⟩
  have O4 : Hid (Own w4 (w.heap.size + 1) [.slice A way.length c, .int .i64 head, .int .i64 len, .int .i64 speed, .int .i64 x, .int .i64 br, .int .i64 C.T.id, .string C.T.name, .int .i64 C.T.len, .int .i64 C.T.speed, .int .i64 C.T.accel, .int .i64 C.T.service, .int .i64 C.T.emergency, .int .i64 C.T.delay, .int .i64 C.T.cons, .int .i64 C.T.rate, .int .i64 C.mode, .int .i64 C.brake, .int .i64 C.next, .int .i64 C.emin, .int .i64 C.emax, .int .i64 C.espeed, .int .i64 C.seq, .int .i64 C.en, .slice B C.p.length cb, .slice K C.k.length ck, .int .i64 C.peer, .int .i64 C.out, .int .i64 C.inn, .int .i64 C.heard, .bool C.known, .int .i64 C.since]) := hw4 ▸ (O3.out.alloc _).keep z.is
  have P4 : Hid (Own w4 (w.heap.size + 1 + 1) [.slice none 0 0, .int .i64 0, .int .i64 0, .int .i64 0, .int .i64 0, .int .i64 0, .int .i64 0, .string ⟨#[]⟩, .int .i64 0, .int .i64 0, .int .i64 0, .int .i64 0, .int .i64 0, .int .i64 0, .int .i64 0, .int .i64 0, .int .i64 0, .int .i64 0, .int .i64 0, .int .i64 0, .int .i64 0, .int .i64 0, .int .i64 0, .int .i64 0, .slice none 0 0, .slice none 0 0, .int .i64 0, .int .i64 0, .int .i64 0, .int .i64 0, .bool false, .int .i64 0]) := hw4 ▸ (P3.out.alloc _).keep z.is
  have L4 : Hid (LayAt w4 w.heap.size L) := hw4 ▸ (CellsAt.alloc L3.out _).keep z.is
  have X4 : Hid (Ext w w4) := hw4 ▸ etr (eal X3.out _) z.is
  have T4 : Hid (Own w4 b11 [.int .i64 C.T.id, .string C.T.name, .int .i64 C.T.len, .int .i64 C.T.speed, .int .i64 C.T.accel, .int .i64 C.T.service, .int .i64 C.T.emergency, .int .i64 C.T.delay, .int .i64 C.T.cons, .int .i64 C.T.rate]) := hw4 ▸ (Own.new hb11).keep z.is
  rw [← hb11, ← hw4]
  clear hw4 hb11 z O3 P3 L3 X3 l0 a0 a1 a2 a3 a4 a5 u0 u1 u2 uz lu uu y HOW HPW
  have u3 := O4.out.2.1 3 _ rfl
  have u5 := O4.out.2.1 5 _ rfl
  have u17 := O4.out.2.1 17 _ rfl
  have uf3 := O4.out.2.2 3
  have uf5 := O4.out.2.2 5
  have uz := O4.out.1
  have r5 := T4.out.2.1 5 _ rfl
  have r6 := T4.out.2.1 6 _ rfl
  have r7 := T4.out.2.1 7 _ rfl
  have rz := T4.out.1
  have e1 := effV_bd C.T.service gv
  have e2 := effV_bd C.T.emergency gv
  have hne : ¬ b11 = w.heap.size + 1 := by omega
  have hne2 : ¬ w.heap.size + 1 = b11 := by omega
  by_cases k0 : C.brake = 0
  · have q0 : (C.brake == 0) = true := by simpa using k0
    obtain rfl : b' = 0 := by rw [hb']; unfold newB; rw [if_pos (.inl k0)]
    have HFREE : Hid (∀ w' : World, Calls Tryd.prog 47 #[.agg #[.int .i64 C.T.id, .string C.T.name, .int .i64 C.T.len, .int .i64 C.T.speed, .int .i64 C.T.accel, .int .i64 C.T.service, .int .i64 C.T.emergency, .int .i64 C.T.delay, .int .i64 C.T.cons, .int .i64 C.T.rate], .int .i64 speed, .int .i64 want] w' fun e w2 => e = .returned (.int .i64 v') ∧ Below w'.heap.size w' w2) := fun w' => by
      have := free_any C.T speed want w' HTR.out hsp
      rw [show freeV C.T speed want = v' by rw [hv']; unfold newV; rw [if_pos k0]] at this; exact this
    clear k0 hv' hb' hsp hbr e1 e2
    go_upto_region 15 with (first | (refine wp_ldN 35 [.int .i64 C.T.id, .string C.T.name, .int .i64 C.T.len, .int .i64 C.T.speed, .int .i64 C.T.accel, .int .i64 C.T.service, .int .i64 C.T.emergency, .int .i64 C.T.delay, .int .i64 C.T.cons, .int .i64 C.T.rate] rfl rfl rfl (T4.out.only (Only.set _ _ _ _) hne).cells Tryd.underlying35 szTr rfl ?_) | (go_at_call 47; refine (to_after (HFREE.out _)).mono ?_; rintro e w' ⟨z, rfl, rfl⟩; have z1 : w.heap.size + 1 < z.val.heap.size := (by have h := z.is.size; simp at h; omega)))
    obtain ⟨w5, hw5⟩ : ∃ q0, q0 = (z.val.setCell ⟨w.heap.size + 1, 3, none⟩ (.int .i64 v')) := ⟨_, rfl⟩
    rw [← hw5]
    have O5 : Hid (Own w5 (w.heap.size + 1) [.slice A way.length c, .int .i64 head, .int .i64 len, .int .i64 v', .int .i64 x, .int .i64 0, .int .i64 C.T.id, .string C.T.name, .int .i64 C.T.len, .int .i64 C.T.speed, .int .i64 C.T.accel, .int .i64 C.T.service, .int .i64 C.T.emergency, .int .i64 C.T.delay, .int .i64 C.T.cons, .int .i64 C.T.rate, .int .i64 C.mode, .int .i64 C.brake, .int .i64 C.next, .int .i64 C.emin, .int .i64 C.emax, .int .i64 C.espeed, .int .i64 C.seq, .int .i64 C.en, .slice B C.p.length cb, .slice K C.k.length ck, .int .i64 C.peer, .int .i64 C.out, .int .i64 C.inn, .int .i64 C.heard, .bool C.known, .int .i64 C.since]) := hw5 ▸ (((O4.out.set 5 (by simp) (.int .i64 0)).keep z.is).set 3 (by simp) (.int .i64 v'))
    have P5 : Hid (Own w5 (w.heap.size + 1 + 1) [.slice none 0 0, .int .i64 0, .int .i64 0, .int .i64 0, .int .i64 0, .int .i64 0, .int .i64 0, .string ⟨#[]⟩, .int .i64 0, .int .i64 0, .int .i64 0, .int .i64 0, .int .i64 0, .int .i64 0, .int .i64 0, .int .i64 0, .int .i64 0, .int .i64 0, .int .i64 0, .int .i64 0, .int .i64 0, .int .i64 0, .int .i64 0, .int .i64 0, .slice none 0 0, .slice none 0 0, .int .i64 0, .int .i64 0, .int .i64 0, .int .i64 0, .bool false, .int .i64 0]) := hw5 ▸ (((P4.out.only (Only.set _ _ _ _) (by omega)).keep z.is).only (Only.set _ _ _ _) (by omega))
    have L5 : Hid (LayAt w5 w.heap.size L) := hw5 ▸ (((L4.out.only (Only.set _ _ _ _) (by omega)).keep z.is).only (Only.set _ _ _ _) (by omega))
    have X5 : Hid (Ext w w5) := hw5 ▸ (eset (etr (eset X4.out (by omega) _ _) z.is) (by omega) _ _)
    clear hw5 u3 u5 u17 uf3 uf5 uz r5 r6 r7 rz O4 P4 L4 X4 T4
    obtain ⟨l0, a0, a1, a2, a3, a4, a5⟩ := layAt_cells L5.out
    have u0 := O5.out.2.1 0 _ rfl
    have u1 := O5.out.2.1 1 _ rfl
    have u2 := O5.out.2.1 2 _ rfl
    have u3 := O5.out.2.1 3 _ rfl
    have uz := O5.out.1
    go_upto_region 16 with (go_at_call 49; refine (HMO.out _ X5.out).mono ?_; rintro e w6 ⟨A2, c2, hA2, rfl, hr2, hc2, hb⟩; have R6 : Hid (RdN (w.heap.size + 3) w6 A2 3 Stc mst) := ⟨hr2, fun a e => Nat.le_trans (by have := P5.out.1; omega) (hA2 a e)⟩; have C6 := Lib.hid hc2; have O6 := Lib.hid (O5.out.keep hb); have P6 := Lib.hid (P5.out.keep hb); have X6 := Lib.hid (etr X5.out hb); clear hA2 hr2 hc2 hb)
    have v0 := O6.out.2.1 0 _ rfl
    have v1 := O6.out.2.1 1 _ rfl
    have v2 := O6.out.2.1 2 _ rfl
    have v4 := O6.out.2.1 4 _ rfl
    have vf0 := O6.out.2.2 0
    have vf1 := O6.out.2.2 1
    have vf2 := O6.out.2.2 2
    have vf4 := O6.out.2.2 4
    have vz := O6.out.1
    have vz1 : w.heap.size + 1 < w6.heap.size + 1 := by omega
    go_upto_region 18 with (fail)
    obtain ⟨w7, hw7⟩ : ∃ q0, q0 = ((((w6.setCell ⟨w.heap.size + 1, 0, none⟩ (.slice A2 mst.length c2)).setCell ⟨w.heap.size + 1, 1, none⟩ (.int .i64 mh)).setCell ⟨w.heap.size + 1, 2, none⟩ (.int .i64 len)).setCell ⟨w.heap.size + 1, 4, none⟩ (.int .i64 (x + mm))).alloc (.cells #[.slice A2 mst.length c2, .int .i64 mh, .int .i64 len] 32) := ⟨_, rfl⟩
    rw [← hw7]
    have O7 : Hid (Own w7 (w.heap.size + 1) [.slice A2 mst.length c2, .int .i64 mh, .int .i64 len, .int .i64 v', .int .i64 (x + mm), .int .i64 0, .int .i64 C.T.id, .string C.T.name, .int .i64 C.T.len, .int .i64 C.T.speed, .int .i64 C.T.accel, .int .i64 C.T.service, .int .i64 C.T.emergency, .int .i64 C.T.delay, .int .i64 C.T.cons, .int .i64 C.T.rate, .int .i64 C.mode, .int .i64 C.brake, .int .i64 C.next, .int .i64 C.emin, .int .i64 C.emax, .int .i64 C.espeed, .int .i64 C.seq, .int .i64 C.en, .slice B C.p.length cb, .slice K C.k.length ck, .int .i64 C.peer, .int .i64 C.out, .int .i64 C.inn, .int .i64 C.heard, .bool C.known, .int .i64 C.since]) := hw7 ▸ Own.alloc ((((O6.out.set 0 (by simp) (.slice A2 mst.length c2)).set 1 (by simp) (.int .i64 mh)).set 2 (by simp) (.int .i64 len)).set 4 (by simp) (.int .i64 (x + mm))) _
    have P7 : Hid (Own w7 (w.heap.size + 1 + 1) [.slice none 0 0, .int .i64 0, .int .i64 0, .int .i64 0, .int .i64 0, .int .i64 0, .int .i64 0, .string ⟨#[]⟩, .int .i64 0, .int .i64 0, .int .i64 0, .int .i64 0, .int .i64 0, .int .i64 0, .int .i64 0, .int .i64 0, .int .i64 0, .int .i64 0, .int .i64 0, .int .i64 0, .int .i64 0, .int .i64 0, .int .i64 0, .int .i64 0, .slice none 0 0, .slice none 0 0, .int .i64 0, .int .i64 0, .int .i64 0, .int .i64 0, .bool false, .int .i64 0]) := hw7 ▸ Own.alloc ((((P6.out.only (Only.set _ _ _ _) (by omega)).only (Only.set _ _ _ _) (by omega)).only (Only.set _ _ _ _) (by omega)).only (Only.set _ _ _ _) (by omega)) _
    have X7 : Hid (Ext w w7) := hw7 ▸ eal (eset (eset (eset (eset X6.out (by omega) _ _) (by omega) _ _) (by omega) _ _) (by omega) _ _) _
    have R7 : Hid (RdN (w.heap.size + 3) w7 A2 3 Stc mst) := hw7 ▸ ((((R6.out.only (Only.set _ _ _ _) (by omega)).only (Only.set _ _ _ _) (by omega)).only (Only.set _ _ _ _) (by omega)).only (Only.set _ _ _ _) (by omega)).keep (eal (Ext.refl _) _)
    clear hw7 O6 P6 X6 R6 O5 P5 X5 L5 v0 v1 v2 v4 vf0 vf1 vf2 vf4 vz vz1 u0 u1 u2 u3 uz l0 a0 a1 a2 a3 a4 a5
    cases me
    · go_wp2_with (first | (refine wp_ldN 49 [.slice A2 mst.length c2, .int .i64 mh, .int .i64 len, .int .i64 v', .int .i64 (x + mm), .int .i64 0, .int .i64 C.T.id, .string C.T.name, .int .i64 C.T.len, .int .i64 C.T.speed, .int .i64 C.T.accel, .int .i64 C.T.service, .int .i64 C.T.emergency, .int .i64 C.T.delay, .int .i64 C.T.cons, .int .i64 C.T.rate, .int .i64 C.mode, .int .i64 C.brake, .int .i64 C.next, .int .i64 C.emin, .int .i64 C.emax, .int .i64 C.espeed, .int .i64 C.seq, .int .i64 C.en, .slice B C.p.length cb, .slice K C.k.length ck, .int .i64 C.peer, .int .i64 C.out, .int .i64 C.inn, .int .i64 C.heard, .bool C.known, .int .i64 C.since] rfl rfl rfl O7.out.cells Tryd.underlying49 szUnt rfl ?_) | (refine wp_stN 49 [.slice A2 mst.length c2, .int .i64 mh, .int .i64 len, .int .i64 v', .int .i64 (x + mm), .int .i64 0, .int .i64 C.T.id, .string C.T.name, .int .i64 C.T.len, .int .i64 C.T.speed, .int .i64 C.T.accel, .int .i64 C.T.service, .int .i64 C.T.emergency, .int .i64 C.T.delay, .int .i64 C.T.cons, .int .i64 C.T.rate, .int .i64 C.mode, .int .i64 C.brake, .int .i64 C.next, .int .i64 C.emin, .int .i64 C.emax, .int .i64 C.espeed, .int .i64 C.seq, .int .i64 C.en, .slice B C.p.length cb, .slice K C.k.length ck, .int .i64 C.peer, .int .i64 C.out, .int .i64 C.inn, .int .i64 C.heard, .bool C.known, .int .i64 C.since] [.slice A2 mst.length c2, .int .i64 mh, .int .i64 len, .int .i64 v', .int .i64 (x + mm), .int .i64 0, .int .i64 C.T.id, .string C.T.name, .int .i64 C.T.len, .int .i64 C.T.speed, .int .i64 C.T.accel, .int .i64 C.T.service, .int .i64 C.T.emergency, .int .i64 C.T.delay, .int .i64 C.T.cons, .int .i64 C.T.rate, .int .i64 C.mode, .int .i64 C.brake, .int .i64 C.next, .int .i64 C.emin, .int .i64 C.emax, .int .i64 C.espeed, .int .i64 C.seq, .int .i64 C.en, .slice B C.p.length cb, .slice K C.k.length ck, .int .i64 C.peer, .int .i64 C.out, .int .i64 C.inn, .int .i64 C.heard, .bool C.known, .int .i64 C.since] rfl rfl rfl P7.out rfl szUnt rfl (by show (0 + 32 : Nat) ≤ 32; decide) rfl ?_; intro w9 H9))
      refine bodyPost_ret (res_utt (by rfl) (by rfl) (by rfl) (by rfl) H9.out.1.cells Tryd.underlying49 szUnt) rfl ?_
      have X9 := Lib.hid (eonly X7.out H9.out.2 (by omega))
      refine ⟨A2, c2, B, cb, K, ck, by rw [HSV.out]; rfl, ?_, ⟨HB.out.keep X9.out, HBc.out⟩, ⟨HK.out.keep X9.out, HKc.out⟩, X9.out⟩
      rw [HSV.out]
      exact ⟨(R7.out.only H9.out.2 (by omega)).1, C6.out⟩
    · have v3 := O7.out.2.1 3 _ rfl
      have vf3 := O7.out.2.2 3
      have vz := O7.out.1
      go_upto_region 20 with (fail)
      obtain ⟨w8, hw8⟩ : ∃ q0, q0 = w7.setCell ⟨w.heap.size + 1, 3, none⟩ (.int .i64 0) := ⟨_, rfl⟩
      rw [← hw8]
      have O8 : Hid (Own w8 (w.heap.size + 1) [.slice A2 mst.length c2, .int .i64 mh, .int .i64 len, .int .i64 0, .int .i64 (x + mm), .int .i64 0, .int .i64 C.T.id, .string C.T.name, .int .i64 C.T.len, .int .i64 C.T.speed, .int .i64 C.T.accel, .int .i64 C.T.service, .int .i64 C.T.emergency, .int .i64 C.T.delay, .int .i64 C.T.cons, .int .i64 C.T.rate, .int .i64 C.mode, .int .i64 C.brake, .int .i64 C.next, .int .i64 C.emin, .int .i64 C.emax, .int .i64 C.espeed, .int .i64 C.seq, .int .i64 C.en, .slice B C.p.length cb, .slice K C.k.length ck, .int .i64 C.peer, .int .i64 C.out, .int .i64 C.inn, .int .i64 C.heard, .bool C.known, .int .i64 C.since]) := hw8 ▸ O7.out.set 3 (by simp) (.int .i64 0)
      have P8 : Hid (Own w8 (w.heap.size + 1 + 1) [.slice none 0 0, .int .i64 0, .int .i64 0, .int .i64 0, .int .i64 0, .int .i64 0, .int .i64 0, .string ⟨#[]⟩, .int .i64 0, .int .i64 0, .int .i64 0, .int .i64 0, .int .i64 0, .int .i64 0, .int .i64 0, .int .i64 0, .int .i64 0, .int .i64 0, .int .i64 0, .int .i64 0, .int .i64 0, .int .i64 0, .int .i64 0, .int .i64 0, .slice none 0 0, .slice none 0 0, .int .i64 0, .int .i64 0, .int .i64 0, .int .i64 0, .bool false, .int .i64 0]) := hw8 ▸ P7.out.only (Only.set _ _ _ _) (by omega)
      have X8 : Hid (Ext w w8) := hw8 ▸ eset X7.out (by omega) _ _
      have R8 : Hid (RdN (w.heap.size + 3) w8 A2 3 Stc mst) := hw8 ▸ R7.out.only (Only.set _ _ _ _) (by omega)
      clear hw8 O7 P7 X7 R7 v3 vf3 vz w7
      go_wp2_with (first | (refine wp_ldN 49 [.slice A2 mst.length c2, .int .i64 mh, .int .i64 len, .int .i64 0, .int .i64 (x + mm), .int .i64 0, .int .i64 C.T.id, .string C.T.name, .int .i64 C.T.len, .int .i64 C.T.speed, .int .i64 C.T.accel, .int .i64 C.T.service, .int .i64 C.T.emergency, .int .i64 C.T.delay, .int .i64 C.T.cons, .int .i64 C.T.rate, .int .i64 C.mode, .int .i64 C.brake, .int .i64 C.next, .int .i64 C.emin, .int .i64 C.emax, .int .i64 C.espeed, .int .i64 C.seq, .int .i64 C.en, .slice B C.p.length cb, .slice K C.k.length ck, .int .i64 C.peer, .int .i64 C.out, .int .i64 C.inn, .int .i64 C.heard, .bool C.known, .int .i64 C.since] rfl rfl rfl O8.out.cells Tryd.underlying49 szUnt rfl ?_) | (refine wp_stN 49 [.slice A2 mst.length c2, .int .i64 mh, .int .i64 len, .int .i64 0, .int .i64 (x + mm), .int .i64 0, .int .i64 C.T.id, .string C.T.name, .int .i64 C.T.len, .int .i64 C.T.speed, .int .i64 C.T.accel, .int .i64 C.T.service, .int .i64 C.T.emergency, .int .i64 C.T.delay, .int .i64 C.T.cons, .int .i64 C.T.rate, .int .i64 C.mode, .int .i64 C.brake, .int .i64 C.next, .int .i64 C.emin, .int .i64 C.emax, .int .i64 C.espeed, .int .i64 C.seq, .int .i64 C.en, .slice B C.p.length cb, .slice K C.k.length ck, .int .i64 C.peer, .int .i64 C.out, .int .i64 C.inn, .int .i64 C.heard, .bool C.known, .int .i64 C.since] [.slice A2 mst.length c2, .int .i64 mh, .int .i64 len, .int .i64 0, .int .i64 (x + mm), .int .i64 0, .int .i64 C.T.id, .string C.T.name, .int .i64 C.T.len, .int .i64 C.T.speed, .int .i64 C.T.accel, .int .i64 C.T.service, .int .i64 C.T.emergency, .int .i64 C.T.delay, .int .i64 C.T.cons, .int .i64 C.T.rate, .int .i64 C.mode, .int .i64 C.brake, .int .i64 C.next, .int .i64 C.emin, .int .i64 C.emax, .int .i64 C.espeed, .int .i64 C.seq, .int .i64 C.en, .slice B C.p.length cb, .slice K C.k.length ck, .int .i64 C.peer, .int .i64 C.out, .int .i64 C.inn, .int .i64 C.heard, .bool C.known, .int .i64 C.since] rfl rfl rfl P8.out rfl szUnt rfl (by show (0 + 32 : Nat) ≤ 32; decide) rfl ?_; intro w9 H9))
      refine bodyPost_ret (res_utt (by rfl) (by rfl) (by rfl) (by rfl) H9.out.1.cells Tryd.underlying49 szUnt) rfl ?_
      have X9 := Lib.hid (eonly X8.out H9.out.2 (by omega))
      refine ⟨A2, c2, B, cb, K, ck, by rw [HSV.out]; rfl, ?_, ⟨HB.out.keep X9.out, HBc.out⟩, ⟨HK.out.keep X9.out, HKc.out⟩, X9.out⟩
      rw [HSV.out]
      exact ⟨(R8.out.only H9.out.2 (by omega)).1, C6.out⟩
  have q0 : (C.brake == 0) = false := by simpa using k0
  by_cases k1 : C.brake = 1
  · have q1 : (C.brake == 1) = true := by simpa using k1
    obtain rfl : b' = 0 := by rw [hb']; unfold newB; rw [if_pos (.inr k1)]
    obtain ⟨ev, hev⟩ : ∃ ev, ev = effV C.T.service gv := ⟨_, rfl⟩
    rw [← hev] at e1
    have n1 : IntKind.i64.wrap (speed - ev) = speed - ev := IntWalk.i64_in _ (by omega)
    have m1 : max 0 (speed - ev) = v' := by rw [hv', hev]; unfold newV; rw [if_neg k0, if_pos k1]
    have HEF : Hid (∀ w' : World, Calls Tryd.prog 48 #[.int .i64 C.T.service, .int .i64 gv] w' fun e w2 => e = .returned (.int .i64 ev) ∧ w' = w2) := fun w' => by have := reff_any C.T.service gv w'; rw [← hev] at this; exact this
    clear hev k0 k1 hv' hb' hsp hbr e1 e2
    go_upto_region 14 with (fail)
    refine wp_tail_after 8 (by kernel_rfl) (by kernel_rfl) ?_
    simp only [List.take_succ_cons, List.take_zero, List.drop_succ_cons, List.drop_zero]
    repeat (first | go_big_quiet_step ((first | (go_at_call 48; exact after_same _ (HEF.out _)))))
    refine wpQuiet_nil ?_
    rintro _ ⟨z, rfl⟩
    have z1 : w.heap.size + 1 < z.val.heap.size := by have h := z.is.size; simp at h; omega
    go_upto_region 15 with (fail)
    obtain ⟨w5, hw5⟩ : ∃ q0, q0 = (z.val.setCell ⟨w.heap.size + 1, 3, none⟩ (.int .i64 v')) := ⟨_, rfl⟩
    rw [← hw5]
    have O5 : Hid (Own w5 (w.heap.size + 1) [.slice A way.length c, .int .i64 head, .int .i64 len, .int .i64 v', .int .i64 x, .int .i64 0, .int .i64 C.T.id, .string C.T.name, .int .i64 C.T.len, .int .i64 C.T.speed, .int .i64 C.T.accel, .int .i64 C.T.service, .int .i64 C.T.emergency, .int .i64 C.T.delay, .int .i64 C.T.cons, .int .i64 C.T.rate, .int .i64 C.mode, .int .i64 C.brake, .int .i64 C.next, .int .i64 C.emin, .int .i64 C.emax, .int .i64 C.espeed, .int .i64 C.seq, .int .i64 C.en, .slice B C.p.length cb, .slice K C.k.length ck, .int .i64 C.peer, .int .i64 C.out, .int .i64 C.inn, .int .i64 C.heard, .bool C.known, .int .i64 C.since]) := hw5 ▸ (((O4.out.set 5 (by simp) (.int .i64 0)).keep z.is).set 3 (by simp) (.int .i64 v'))
    have P5 : Hid (Own w5 (w.heap.size + 1 + 1) [.slice none 0 0, .int .i64 0, .int .i64 0, .int .i64 0, .int .i64 0, .int .i64 0, .int .i64 0, .string ⟨#[]⟩, .int .i64 0, .int .i64 0, .int .i64 0, .int .i64 0, .int .i64 0, .int .i64 0, .int .i64 0, .int .i64 0, .int .i64 0, .int .i64 0, .int .i64 0, .int .i64 0, .int .i64 0, .int .i64 0, .int .i64 0, .int .i64 0, .slice none 0 0, .slice none 0 0, .int .i64 0, .int .i64 0, .int .i64 0, .int .i64 0, .bool false, .int .i64 0]) := hw5 ▸ (((P4.out.only (Only.set _ _ _ _) (by omega)).keep z.is).only (Only.set _ _ _ _) (by omega))
    have L5 : Hid (LayAt w5 w.heap.size L) := hw5 ▸ (((L4.out.only (Only.set _ _ _ _) (by omega)).keep z.is).only (Only.set _ _ _ _) (by omega))
    have X5 : Hid (Ext w w5) := hw5 ▸ (eset (etr (eset X4.out (by omega) _ _) z.is) (by omega) _ _)
    clear hw5 u3 u5 u17 uf3 uf5 uz r5 r6 r7 rz O4 P4 L4 X4 T4
    obtain ⟨l0, a0, a1, a2, a3, a4, a5⟩ := layAt_cells L5.out
    have u0 := O5.out.2.1 0 _ rfl
    have u1 := O5.out.2.1 1 _ rfl
    have u2 := O5.out.2.1 2 _ rfl
    have u3 := O5.out.2.1 3 _ rfl
    have uz := O5.out.1
    go_upto_region 16 with (go_at_call 49; refine (HMO.out _ X5.out).mono ?_; rintro e w6 ⟨A2, c2, hA2, rfl, hr2, hc2, hb⟩; have R6 : Hid (RdN (w.heap.size + 3) w6 A2 3 Stc mst) := ⟨hr2, fun a e => Nat.le_trans (by have := P5.out.1; omega) (hA2 a e)⟩; have C6 := Lib.hid hc2; have O6 := Lib.hid (O5.out.keep hb); have P6 := Lib.hid (P5.out.keep hb); have X6 := Lib.hid (etr X5.out hb); clear hA2 hr2 hc2 hb)
    have v0 := O6.out.2.1 0 _ rfl
    have v1 := O6.out.2.1 1 _ rfl
    have v2 := O6.out.2.1 2 _ rfl
    have v4 := O6.out.2.1 4 _ rfl
    have vf0 := O6.out.2.2 0
    have vf1 := O6.out.2.2 1
    have vf2 := O6.out.2.2 2
    have vf4 := O6.out.2.2 4
    have vz := O6.out.1
    have vz1 : w.heap.size + 1 < w6.heap.size + 1 := by omega
    go_upto_region 18 with (fail)
    obtain ⟨w7, hw7⟩ : ∃ q0, q0 = ((((w6.setCell ⟨w.heap.size + 1, 0, none⟩ (.slice A2 mst.length c2)).setCell ⟨w.heap.size + 1, 1, none⟩ (.int .i64 mh)).setCell ⟨w.heap.size + 1, 2, none⟩ (.int .i64 len)).setCell ⟨w.heap.size + 1, 4, none⟩ (.int .i64 (x + mm))).alloc (.cells #[.slice A2 mst.length c2, .int .i64 mh, .int .i64 len] 32) := ⟨_, rfl⟩
    rw [← hw7]
    have O7 : Hid (Own w7 (w.heap.size + 1) [.slice A2 mst.length c2, .int .i64 mh, .int .i64 len, .int .i64 v', .int .i64 (x + mm), .int .i64 0, .int .i64 C.T.id, .string C.T.name, .int .i64 C.T.len, .int .i64 C.T.speed, .int .i64 C.T.accel, .int .i64 C.T.service, .int .i64 C.T.emergency, .int .i64 C.T.delay, .int .i64 C.T.cons, .int .i64 C.T.rate, .int .i64 C.mode, .int .i64 C.brake, .int .i64 C.next, .int .i64 C.emin, .int .i64 C.emax, .int .i64 C.espeed, .int .i64 C.seq, .int .i64 C.en, .slice B C.p.length cb, .slice K C.k.length ck, .int .i64 C.peer, .int .i64 C.out, .int .i64 C.inn, .int .i64 C.heard, .bool C.known, .int .i64 C.since]) := hw7 ▸ Own.alloc ((((O6.out.set 0 (by simp) (.slice A2 mst.length c2)).set 1 (by simp) (.int .i64 mh)).set 2 (by simp) (.int .i64 len)).set 4 (by simp) (.int .i64 (x + mm))) _
    have P7 : Hid (Own w7 (w.heap.size + 1 + 1) [.slice none 0 0, .int .i64 0, .int .i64 0, .int .i64 0, .int .i64 0, .int .i64 0, .int .i64 0, .string ⟨#[]⟩, .int .i64 0, .int .i64 0, .int .i64 0, .int .i64 0, .int .i64 0, .int .i64 0, .int .i64 0, .int .i64 0, .int .i64 0, .int .i64 0, .int .i64 0, .int .i64 0, .int .i64 0, .int .i64 0, .int .i64 0, .int .i64 0, .slice none 0 0, .slice none 0 0, .int .i64 0, .int .i64 0, .int .i64 0, .int .i64 0, .bool false, .int .i64 0]) := hw7 ▸ Own.alloc ((((P6.out.only (Only.set _ _ _ _) (by omega)).only (Only.set _ _ _ _) (by omega)).only (Only.set _ _ _ _) (by omega)).only (Only.set _ _ _ _) (by omega)) _
    have X7 : Hid (Ext w w7) := hw7 ▸ eal (eset (eset (eset (eset X6.out (by omega) _ _) (by omega) _ _) (by omega) _ _) (by omega) _ _) _
    have R7 : Hid (RdN (w.heap.size + 3) w7 A2 3 Stc mst) := hw7 ▸ ((((R6.out.only (Only.set _ _ _ _) (by omega)).only (Only.set _ _ _ _) (by omega)).only (Only.set _ _ _ _) (by omega)).only (Only.set _ _ _ _) (by omega)).keep (eal (Ext.refl _) _)
    clear hw7 O6 P6 X6 R6 O5 P5 X5 L5 v0 v1 v2 v4 vf0 vf1 vf2 vf4 vz vz1 u0 u1 u2 u3 uz l0 a0 a1 a2 a3 a4 a5
    cases me
    · go_wp2_with (first | (refine wp_ldN 49 [.slice A2 mst.length c2, .int .i64 mh, .int .i64 len, .int .i64 v', .int .i64 (x + mm), .int .i64 0, .int .i64 C.T.id, .string C.T.name, .int .i64 C.T.len, .int .i64 C.T.speed, .int .i64 C.T.accel, .int .i64 C.T.service, .int .i64 C.T.emergency, .int .i64 C.T.delay, .int .i64 C.T.cons, .int .i64 C.T.rate, .int .i64 C.mode, .int .i64 C.brake, .int .i64 C.next, .int .i64 C.emin, .int .i64 C.emax, .int .i64 C.espeed, .int .i64 C.seq, .int .i64 C.en, .slice B C.p.length cb, .slice K C.k.length ck, .int .i64 C.peer, .int .i64 C.out, .int .i64 C.inn, .int .i64 C.heard, .bool C.known, .int .i64 C.since] rfl rfl rfl O7.out.cells Tryd.underlying49 szUnt rfl ?_) | (refine wp_stN 49 [.slice A2 mst.length c2, .int .i64 mh, .int .i64 len, .int .i64 v', .int .i64 (x + mm), .int .i64 0, .int .i64 C.T.id, .string C.T.name, .int .i64 C.T.len, .int .i64 C.T.speed, .int .i64 C.T.accel, .int .i64 C.T.service, .int .i64 C.T.emergency, .int .i64 C.T.delay, .int .i64 C.T.cons, .int .i64 C.T.rate, .int .i64 C.mode, .int .i64 C.brake, .int .i64 C.next, .int .i64 C.emin, .int .i64 C.emax, .int .i64 C.espeed, .int .i64 C.seq, .int .i64 C.en, .slice B C.p.length cb, .slice K C.k.length ck, .int .i64 C.peer, .int .i64 C.out, .int .i64 C.inn, .int .i64 C.heard, .bool C.known, .int .i64 C.since] [.slice A2 mst.length c2, .int .i64 mh, .int .i64 len, .int .i64 v', .int .i64 (x + mm), .int .i64 0, .int .i64 C.T.id, .string C.T.name, .int .i64 C.T.len, .int .i64 C.T.speed, .int .i64 C.T.accel, .int .i64 C.T.service, .int .i64 C.T.emergency, .int .i64 C.T.delay, .int .i64 C.T.cons, .int .i64 C.T.rate, .int .i64 C.mode, .int .i64 C.brake, .int .i64 C.next, .int .i64 C.emin, .int .i64 C.emax, .int .i64 C.espeed, .int .i64 C.seq, .int .i64 C.en, .slice B C.p.length cb, .slice K C.k.length ck, .int .i64 C.peer, .int .i64 C.out, .int .i64 C.inn, .int .i64 C.heard, .bool C.known, .int .i64 C.since] rfl rfl rfl P7.out rfl szUnt rfl (by show (0 + 32 : Nat) ≤ 32; decide) rfl ?_; intro w9 H9))
      refine bodyPost_ret (res_utt (by rfl) (by rfl) (by rfl) (by rfl) H9.out.1.cells Tryd.underlying49 szUnt) rfl ?_
      have X9 := Lib.hid (eonly X7.out H9.out.2 (by omega))
      refine ⟨A2, c2, B, cb, K, ck, by rw [HSV.out]; rfl, ?_, ⟨HB.out.keep X9.out, HBc.out⟩, ⟨HK.out.keep X9.out, HKc.out⟩, X9.out⟩
      rw [HSV.out]
      exact ⟨(R7.out.only H9.out.2 (by omega)).1, C6.out⟩
    · have v3 := O7.out.2.1 3 _ rfl
      have vf3 := O7.out.2.2 3
      have vz := O7.out.1
      go_upto_region 20 with (fail)
      obtain ⟨w8, hw8⟩ : ∃ q0, q0 = w7.setCell ⟨w.heap.size + 1, 3, none⟩ (.int .i64 0) := ⟨_, rfl⟩
      rw [← hw8]
      have O8 : Hid (Own w8 (w.heap.size + 1) [.slice A2 mst.length c2, .int .i64 mh, .int .i64 len, .int .i64 0, .int .i64 (x + mm), .int .i64 0, .int .i64 C.T.id, .string C.T.name, .int .i64 C.T.len, .int .i64 C.T.speed, .int .i64 C.T.accel, .int .i64 C.T.service, .int .i64 C.T.emergency, .int .i64 C.T.delay, .int .i64 C.T.cons, .int .i64 C.T.rate, .int .i64 C.mode, .int .i64 C.brake, .int .i64 C.next, .int .i64 C.emin, .int .i64 C.emax, .int .i64 C.espeed, .int .i64 C.seq, .int .i64 C.en, .slice B C.p.length cb, .slice K C.k.length ck, .int .i64 C.peer, .int .i64 C.out, .int .i64 C.inn, .int .i64 C.heard, .bool C.known, .int .i64 C.since]) := hw8 ▸ O7.out.set 3 (by simp) (.int .i64 0)
      have P8 : Hid (Own w8 (w.heap.size + 1 + 1) [.slice none 0 0, .int .i64 0, .int .i64 0, .int .i64 0, .int .i64 0, .int .i64 0, .int .i64 0, .string ⟨#[]⟩, .int .i64 0, .int .i64 0, .int .i64 0, .int .i64 0, .int .i64 0, .int .i64 0, .int .i64 0, .int .i64 0, .int .i64 0, .int .i64 0, .int .i64 0, .int .i64 0, .int .i64 0, .int .i64 0, .int .i64 0, .int .i64 0, .slice none 0 0, .slice none 0 0, .int .i64 0, .int .i64 0, .int .i64 0, .int .i64 0, .bool false, .int .i64 0]) := hw8 ▸ P7.out.only (Only.set _ _ _ _) (by omega)
      have X8 : Hid (Ext w w8) := hw8 ▸ eset X7.out (by omega) _ _
      have R8 : Hid (RdN (w.heap.size + 3) w8 A2 3 Stc mst) := hw8 ▸ R7.out.only (Only.set _ _ _ _) (by omega)
      clear hw8 O7 P7 X7 R7 v3 vf3 vz w7
      go_wp2_with (first | (refine wp_ldN 49 [.slice A2 mst.length c2, .int .i64 mh, .int .i64 len, .int .i64 0, .int .i64 (x + mm), .int .i64 0, .int .i64 C.T.id, .string C.T.name, .int .i64 C.T.len, .int .i64 C.T.speed, .int .i64 C.T.accel, .int .i64 C.T.service, .int .i64 C.T.emergency, .int .i64 C.T.delay, .int .i64 C.T.cons, .int .i64 C.T.rate, .int .i64 C.mode, .int .i64 C.brake, .int .i64 C.next, .int .i64 C.emin, .int .i64 C.emax, .int .i64 C.espeed, .int .i64 C.seq, .int .i64 C.en, .slice B C.p.length cb, .slice K C.k.length ck, .int .i64 C.peer, .int .i64 C.out, .int .i64 C.inn, .int .i64 C.heard, .bool C.known, .int .i64 C.since] rfl rfl rfl O8.out.cells Tryd.underlying49 szUnt rfl ?_) | (refine wp_stN 49 [.slice A2 mst.length c2, .int .i64 mh, .int .i64 len, .int .i64 0, .int .i64 (x + mm), .int .i64 0, .int .i64 C.T.id, .string C.T.name, .int .i64 C.T.len, .int .i64 C.T.speed, .int .i64 C.T.accel, .int .i64 C.T.service, .int .i64 C.T.emergency, .int .i64 C.T.delay, .int .i64 C.T.cons, .int .i64 C.T.rate, .int .i64 C.mode, .int .i64 C.brake, .int .i64 C.next, .int .i64 C.emin, .int .i64 C.emax, .int .i64 C.espeed, .int .i64 C.seq, .int .i64 C.en, .slice B C.p.length cb, .slice K C.k.length ck, .int .i64 C.peer, .int .i64 C.out, .int .i64 C.inn, .int .i64 C.heard, .bool C.known, .int .i64 C.since] [.slice A2 mst.length c2, .int .i64 mh, .int .i64 len, .int .i64 0, .int .i64 (x + mm), .int .i64 0, .int .i64 C.T.id, .string C.T.name, .int .i64 C.T.len, .int .i64 C.T.speed, .int .i64 C.T.accel, .int .i64 C.T.service, .int .i64 C.T.emergency, .int .i64 C.T.delay, .int .i64 C.T.cons, .int .i64 C.T.rate, .int .i64 C.mode, .int .i64 C.brake, .int .i64 C.next, .int .i64 C.emin, .int .i64 C.emax, .int .i64 C.espeed, .int .i64 C.seq, .int .i64 C.en, .slice B C.p.length cb, .slice K C.k.length ck, .int .i64 C.peer, .int .i64 C.out, .int .i64 C.inn, .int .i64 C.heard, .bool C.known, .int .i64 C.since] rfl rfl rfl P8.out rfl szUnt rfl (by show (0 + 32 : Nat) ≤ 32; decide) rfl ?_; intro w9 H9))
      refine bodyPost_ret (res_utt (by rfl) (by rfl) (by rfl) (by rfl) H9.out.1.cells Tryd.underlying49 szUnt) rfl ?_
      have X9 := Lib.hid (eonly X8.out H9.out.2 (by omega))
      refine ⟨A2, c2, B, cb, K, ck, by rw [HSV.out]; rfl, ?_, ⟨HB.out.keep X9.out, HBc.out⟩, ⟨HK.out.keep X9.out, HKc.out⟩, X9.out⟩
      rw [HSV.out]
      exact ⟨(R8.out.only H9.out.2 (by omega)).1, C6.out⟩
  have q1 : (C.brake == 1) = false := by simpa using k1
  have n2 : IntKind.i64.wrap (br + 1) = br + 1 := IntWalk.i64_in _ (by omega)
  have m2 : min (br + 1) 1073741824 = b' := by rw [hb']; unfold newB; rw [if_neg (by omega)]
  by_cases k2 : C.T.delay < b'
  · have q2 : decide (C.T.delay < b') = true := decide_eq_true k2
    obtain ⟨ev, hev⟩ : ∃ ev, ev = effV C.T.emergency gv := ⟨_, rfl⟩
    rw [← hev] at e2
    have n1 : IntKind.i64.wrap (speed - ev) = speed - ev := IntWalk.i64_in _ (by omega)
    have m1 : max 0 (speed - ev) = v' := by rw [hv', hev]; unfold newV; rw [if_neg k0, if_neg k1, if_pos (by rw [← hb']; exact k2)]
    have HEF : Hid (∀ w' : World, Calls Tryd.prog 48 #[.int .i64 C.T.emergency, .int .i64 gv] w' fun e w2 => e = .returned (.int .i64 ev) ∧ w' = w2) := fun w' => by have := reff_any C.T.emergency gv w'; rw [← hev] at this; exact this
    clear hev k0 k1 k2 hv' hb' hsp hbr e1 e2
    go_upto_region 8 with (fail)
    refine wp_tail_after 8 (by kernel_rfl) (by kernel_rfl) ?_
    simp only [List.take_succ_cons, List.take_zero, List.drop_succ_cons, List.drop_zero]
    repeat (first | go_big_quiet_step ((first | (go_at_call 48; exact after_same _ (HEF.out _)))))
    refine wpQuiet_nil ?_
    rintro _ ⟨z, rfl⟩
    have z1 : w.heap.size + 1 < z.val.heap.size := by have h := z.is.size; simp at h; omega
    go_upto_region 15 with (fail)
    obtain ⟨w5, hw5⟩ : ∃ q0, q0 = (z.val.setCell ⟨w.heap.size + 1, 3, none⟩ (.int .i64 v')) := ⟨_, rfl⟩
    rw [← hw5]
    have O5 : Hid (Own w5 (w.heap.size + 1) [.slice A way.length c, .int .i64 head, .int .i64 len, .int .i64 v', .int .i64 x, .int .i64 b', .int .i64 C.T.id, .string C.T.name, .int .i64 C.T.len, .int .i64 C.T.speed, .int .i64 C.T.accel, .int .i64 C.T.service, .int .i64 C.T.emergency, .int .i64 C.T.delay, .int .i64 C.T.cons, .int .i64 C.T.rate, .int .i64 C.mode, .int .i64 C.brake, .int .i64 C.next, .int .i64 C.emin, .int .i64 C.emax, .int .i64 C.espeed, .int .i64 C.seq, .int .i64 C.en, .slice B C.p.length cb, .slice K C.k.length ck, .int .i64 C.peer, .int .i64 C.out, .int .i64 C.inn, .int .i64 C.heard, .bool C.known, .int .i64 C.since]) := hw5 ▸ (((O4.out.set 5 (by simp) (.int .i64 b')).keep z.is).set 3 (by simp) (.int .i64 v'))
    have P5 : Hid (Own w5 (w.heap.size + 1 + 1) [.slice none 0 0, .int .i64 0, .int .i64 0, .int .i64 0, .int .i64 0, .int .i64 0, .int .i64 0, .string ⟨#[]⟩, .int .i64 0, .int .i64 0, .int .i64 0, .int .i64 0, .int .i64 0, .int .i64 0, .int .i64 0, .int .i64 0, .int .i64 0, .int .i64 0, .int .i64 0, .int .i64 0, .int .i64 0, .int .i64 0, .int .i64 0, .int .i64 0, .slice none 0 0, .slice none 0 0, .int .i64 0, .int .i64 0, .int .i64 0, .int .i64 0, .bool false, .int .i64 0]) := hw5 ▸ (((P4.out.only (Only.set _ _ _ _) (by omega)).keep z.is).only (Only.set _ _ _ _) (by omega))
    have L5 : Hid (LayAt w5 w.heap.size L) := hw5 ▸ (((L4.out.only (Only.set _ _ _ _) (by omega)).keep z.is).only (Only.set _ _ _ _) (by omega))
    have X5 : Hid (Ext w w5) := hw5 ▸ (eset (etr (eset X4.out (by omega) _ _) z.is) (by omega) _ _)
    clear hw5 u3 u5 u17 uf3 uf5 uz r5 r6 r7 rz O4 P4 L4 X4 T4
    obtain ⟨l0, a0, a1, a2, a3, a4, a5⟩ := layAt_cells L5.out
    have u0 := O5.out.2.1 0 _ rfl
    have u1 := O5.out.2.1 1 _ rfl
    have u2 := O5.out.2.1 2 _ rfl
    have u3 := O5.out.2.1 3 _ rfl
    have uz := O5.out.1
    go_upto_region 16 with (go_at_call 49; refine (HMO.out _ X5.out).mono ?_; rintro e w6 ⟨A2, c2, hA2, rfl, hr2, hc2, hb⟩; have R6 : Hid (RdN (w.heap.size + 3) w6 A2 3 Stc mst) := ⟨hr2, fun a e => Nat.le_trans (by have := P5.out.1; omega) (hA2 a e)⟩; have C6 := Lib.hid hc2; have O6 := Lib.hid (O5.out.keep hb); have P6 := Lib.hid (P5.out.keep hb); have X6 := Lib.hid (etr X5.out hb); clear hA2 hr2 hc2 hb)
    have v0 := O6.out.2.1 0 _ rfl
    have v1 := O6.out.2.1 1 _ rfl
    have v2 := O6.out.2.1 2 _ rfl
    have v4 := O6.out.2.1 4 _ rfl
    have vf0 := O6.out.2.2 0
    have vf1 := O6.out.2.2 1
    have vf2 := O6.out.2.2 2
    have vf4 := O6.out.2.2 4
    have vz := O6.out.1
    have vz1 : w.heap.size + 1 < w6.heap.size + 1 := by omega
    go_upto_region 18 with (fail)
    obtain ⟨w7, hw7⟩ : ∃ q0, q0 = ((((w6.setCell ⟨w.heap.size + 1, 0, none⟩ (.slice A2 mst.length c2)).setCell ⟨w.heap.size + 1, 1, none⟩ (.int .i64 mh)).setCell ⟨w.heap.size + 1, 2, none⟩ (.int .i64 len)).setCell ⟨w.heap.size + 1, 4, none⟩ (.int .i64 (x + mm))).alloc (.cells #[.slice A2 mst.length c2, .int .i64 mh, .int .i64 len] 32) := ⟨_, rfl⟩
    rw [← hw7]
    have O7 : Hid (Own w7 (w.heap.size + 1) [.slice A2 mst.length c2, .int .i64 mh, .int .i64 len, .int .i64 v', .int .i64 (x + mm), .int .i64 b', .int .i64 C.T.id, .string C.T.name, .int .i64 C.T.len, .int .i64 C.T.speed, .int .i64 C.T.accel, .int .i64 C.T.service, .int .i64 C.T.emergency, .int .i64 C.T.delay, .int .i64 C.T.cons, .int .i64 C.T.rate, .int .i64 C.mode, .int .i64 C.brake, .int .i64 C.next, .int .i64 C.emin, .int .i64 C.emax, .int .i64 C.espeed, .int .i64 C.seq, .int .i64 C.en, .slice B C.p.length cb, .slice K C.k.length ck, .int .i64 C.peer, .int .i64 C.out, .int .i64 C.inn, .int .i64 C.heard, .bool C.known, .int .i64 C.since]) := hw7 ▸ Own.alloc ((((O6.out.set 0 (by simp) (.slice A2 mst.length c2)).set 1 (by simp) (.int .i64 mh)).set 2 (by simp) (.int .i64 len)).set 4 (by simp) (.int .i64 (x + mm))) _
    have P7 : Hid (Own w7 (w.heap.size + 1 + 1) [.slice none 0 0, .int .i64 0, .int .i64 0, .int .i64 0, .int .i64 0, .int .i64 0, .int .i64 0, .string ⟨#[]⟩, .int .i64 0, .int .i64 0, .int .i64 0, .int .i64 0, .int .i64 0, .int .i64 0, .int .i64 0, .int .i64 0, .int .i64 0, .int .i64 0, .int .i64 0, .int .i64 0, .int .i64 0, .int .i64 0, .int .i64 0, .int .i64 0, .slice none 0 0, .slice none 0 0, .int .i64 0, .int .i64 0, .int .i64 0, .int .i64 0, .bool false, .int .i64 0]) := hw7 ▸ Own.alloc ((((P6.out.only (Only.set _ _ _ _) (by omega)).only (Only.set _ _ _ _) (by omega)).only (Only.set _ _ _ _) (by omega)).only (Only.set _ _ _ _) (by omega)) _
    have X7 : Hid (Ext w w7) := hw7 ▸ eal (eset (eset (eset (eset X6.out (by omega) _ _) (by omega) _ _) (by omega) _ _) (by omega) _ _) _
    have R7 : Hid (RdN (w.heap.size + 3) w7 A2 3 Stc mst) := hw7 ▸ ((((R6.out.only (Only.set _ _ _ _) (by omega)).only (Only.set _ _ _ _) (by omega)).only (Only.set _ _ _ _) (by omega)).only (Only.set _ _ _ _) (by omega)).keep (eal (Ext.refl _) _)
    clear hw7 O6 P6 X6 R6 O5 P5 X5 L5 v0 v1 v2 v4 vf0 vf1 vf2 vf4 vz vz1 u0 u1 u2 u3 uz l0 a0 a1 a2 a3 a4 a5
    cases me
    · go_wp2_with (first | (refine wp_ldN 49 [.slice A2 mst.length c2, .int .i64 mh, .int .i64 len, .int .i64 v', .int .i64 (x + mm), .int .i64 b', .int .i64 C.T.id, .string C.T.name, .int .i64 C.T.len, .int .i64 C.T.speed, .int .i64 C.T.accel, .int .i64 C.T.service, .int .i64 C.T.emergency, .int .i64 C.T.delay, .int .i64 C.T.cons, .int .i64 C.T.rate, .int .i64 C.mode, .int .i64 C.brake, .int .i64 C.next, .int .i64 C.emin, .int .i64 C.emax, .int .i64 C.espeed, .int .i64 C.seq, .int .i64 C.en, .slice B C.p.length cb, .slice K C.k.length ck, .int .i64 C.peer, .int .i64 C.out, .int .i64 C.inn, .int .i64 C.heard, .bool C.known, .int .i64 C.since] rfl rfl rfl O7.out.cells Tryd.underlying49 szUnt rfl ?_) | (refine wp_stN 49 [.slice A2 mst.length c2, .int .i64 mh, .int .i64 len, .int .i64 v', .int .i64 (x + mm), .int .i64 b', .int .i64 C.T.id, .string C.T.name, .int .i64 C.T.len, .int .i64 C.T.speed, .int .i64 C.T.accel, .int .i64 C.T.service, .int .i64 C.T.emergency, .int .i64 C.T.delay, .int .i64 C.T.cons, .int .i64 C.T.rate, .int .i64 C.mode, .int .i64 C.brake, .int .i64 C.next, .int .i64 C.emin, .int .i64 C.emax, .int .i64 C.espeed, .int .i64 C.seq, .int .i64 C.en, .slice B C.p.length cb, .slice K C.k.length ck, .int .i64 C.peer, .int .i64 C.out, .int .i64 C.inn, .int .i64 C.heard, .bool C.known, .int .i64 C.since] [.slice A2 mst.length c2, .int .i64 mh, .int .i64 len, .int .i64 v', .int .i64 (x + mm), .int .i64 b', .int .i64 C.T.id, .string C.T.name, .int .i64 C.T.len, .int .i64 C.T.speed, .int .i64 C.T.accel, .int .i64 C.T.service, .int .i64 C.T.emergency, .int .i64 C.T.delay, .int .i64 C.T.cons, .int .i64 C.T.rate, .int .i64 C.mode, .int .i64 C.brake, .int .i64 C.next, .int .i64 C.emin, .int .i64 C.emax, .int .i64 C.espeed, .int .i64 C.seq, .int .i64 C.en, .slice B C.p.length cb, .slice K C.k.length ck, .int .i64 C.peer, .int .i64 C.out, .int .i64 C.inn, .int .i64 C.heard, .bool C.known, .int .i64 C.since] rfl rfl rfl P7.out rfl szUnt rfl (by show (0 + 32 : Nat) ≤ 32; decide) rfl ?_; intro w9 H9))
      refine bodyPost_ret (res_utt (by rfl) (by rfl) (by rfl) (by rfl) H9.out.1.cells Tryd.underlying49 szUnt) rfl ?_
      have X9 := Lib.hid (eonly X7.out H9.out.2 (by omega))
      refine ⟨A2, c2, B, cb, K, ck, by rw [HSV.out]; rfl, ?_, ⟨HB.out.keep X9.out, HBc.out⟩, ⟨HK.out.keep X9.out, HKc.out⟩, X9.out⟩
      rw [HSV.out]
      exact ⟨(R7.out.only H9.out.2 (by omega)).1, C6.out⟩
    · have v3 := O7.out.2.1 3 _ rfl
      have vf3 := O7.out.2.2 3
      have vz := O7.out.1
      go_upto_region 20 with (fail)
      obtain ⟨w8, hw8⟩ : ∃ q0, q0 = w7.setCell ⟨w.heap.size + 1, 3, none⟩ (.int .i64 0) := ⟨_, rfl⟩
      rw [← hw8]
      have O8 : Hid (Own w8 (w.heap.size + 1) [.slice A2 mst.length c2, .int .i64 mh, .int .i64 len, .int .i64 0, .int .i64 (x + mm), .int .i64 b', .int .i64 C.T.id, .string C.T.name, .int .i64 C.T.len, .int .i64 C.T.speed, .int .i64 C.T.accel, .int .i64 C.T.service, .int .i64 C.T.emergency, .int .i64 C.T.delay, .int .i64 C.T.cons, .int .i64 C.T.rate, .int .i64 C.mode, .int .i64 C.brake, .int .i64 C.next, .int .i64 C.emin, .int .i64 C.emax, .int .i64 C.espeed, .int .i64 C.seq, .int .i64 C.en, .slice B C.p.length cb, .slice K C.k.length ck, .int .i64 C.peer, .int .i64 C.out, .int .i64 C.inn, .int .i64 C.heard, .bool C.known, .int .i64 C.since]) := hw8 ▸ O7.out.set 3 (by simp) (.int .i64 0)
      have P8 : Hid (Own w8 (w.heap.size + 1 + 1) [.slice none 0 0, .int .i64 0, .int .i64 0, .int .i64 0, .int .i64 0, .int .i64 0, .int .i64 0, .string ⟨#[]⟩, .int .i64 0, .int .i64 0, .int .i64 0, .int .i64 0, .int .i64 0, .int .i64 0, .int .i64 0, .int .i64 0, .int .i64 0, .int .i64 0, .int .i64 0, .int .i64 0, .int .i64 0, .int .i64 0, .int .i64 0, .int .i64 0, .slice none 0 0, .slice none 0 0, .int .i64 0, .int .i64 0, .int .i64 0, .int .i64 0, .bool false, .int .i64 0]) := hw8 ▸ P7.out.only (Only.set _ _ _ _) (by omega)
      have X8 : Hid (Ext w w8) := hw8 ▸ eset X7.out (by omega) _ _
      have R8 : Hid (RdN (w.heap.size + 3) w8 A2 3 Stc mst) := hw8 ▸ R7.out.only (Only.set _ _ _ _) (by omega)
      clear hw8 O7 P7 X7 R7 v3 vf3 vz w7
      go_wp2_with (first | (refine wp_ldN 49 [.slice A2 mst.length c2, .int .i64 mh, .int .i64 len, .int .i64 0, .int .i64 (x + mm), .int .i64 b', .int .i64 C.T.id, .string C.T.name, .int .i64 C.T.len, .int .i64 C.T.speed, .int .i64 C.T.accel, .int .i64 C.T.service, .int .i64 C.T.emergency, .int .i64 C.T.delay, .int .i64 C.T.cons, .int .i64 C.T.rate, .int .i64 C.mode, .int .i64 C.brake, .int .i64 C.next, .int .i64 C.emin, .int .i64 C.emax, .int .i64 C.espeed, .int .i64 C.seq, .int .i64 C.en, .slice B C.p.length cb, .slice K C.k.length ck, .int .i64 C.peer, .int .i64 C.out, .int .i64 C.inn, .int .i64 C.heard, .bool C.known, .int .i64 C.since] rfl rfl rfl O8.out.cells Tryd.underlying49 szUnt rfl ?_) | (refine wp_stN 49 [.slice A2 mst.length c2, .int .i64 mh, .int .i64 len, .int .i64 0, .int .i64 (x + mm), .int .i64 b', .int .i64 C.T.id, .string C.T.name, .int .i64 C.T.len, .int .i64 C.T.speed, .int .i64 C.T.accel, .int .i64 C.T.service, .int .i64 C.T.emergency, .int .i64 C.T.delay, .int .i64 C.T.cons, .int .i64 C.T.rate, .int .i64 C.mode, .int .i64 C.brake, .int .i64 C.next, .int .i64 C.emin, .int .i64 C.emax, .int .i64 C.espeed, .int .i64 C.seq, .int .i64 C.en, .slice B C.p.length cb, .slice K C.k.length ck, .int .i64 C.peer, .int .i64 C.out, .int .i64 C.inn, .int .i64 C.heard, .bool C.known, .int .i64 C.since] [.slice A2 mst.length c2, .int .i64 mh, .int .i64 len, .int .i64 0, .int .i64 (x + mm), .int .i64 b', .int .i64 C.T.id, .string C.T.name, .int .i64 C.T.len, .int .i64 C.T.speed, .int .i64 C.T.accel, .int .i64 C.T.service, .int .i64 C.T.emergency, .int .i64 C.T.delay, .int .i64 C.T.cons, .int .i64 C.T.rate, .int .i64 C.mode, .int .i64 C.brake, .int .i64 C.next, .int .i64 C.emin, .int .i64 C.emax, .int .i64 C.espeed, .int .i64 C.seq, .int .i64 C.en, .slice B C.p.length cb, .slice K C.k.length ck, .int .i64 C.peer, .int .i64 C.out, .int .i64 C.inn, .int .i64 C.heard, .bool C.known, .int .i64 C.since] rfl rfl rfl P8.out rfl szUnt rfl (by show (0 + 32 : Nat) ≤ 32; decide) rfl ?_; intro w9 H9))
      refine bodyPost_ret (res_utt (by rfl) (by rfl) (by rfl) (by rfl) H9.out.1.cells Tryd.underlying49 szUnt) rfl ?_
      have X9 := Lib.hid (eonly X8.out H9.out.2 (by omega))
      refine ⟨A2, c2, B, cb, K, ck, by rw [HSV.out]; rfl, ?_, ⟨HB.out.keep X9.out, HBc.out⟩, ⟨HK.out.keep X9.out, HKc.out⟩, X9.out⟩
      rw [HSV.out]
      exact ⟨(R8.out.only H9.out.2 (by omega)).1, C6.out⟩
  · have q2 : decide (C.T.delay < b') = false := decide_eq_false k2
    obtain rfl : v' = speed := by rw [hv']; unfold newV; rw [if_neg k0, if_neg k1, if_neg (by rw [← hb']; exact k2)]
    clear k0 k1 k2 hv' hb' hsp hbr e1 e2
    go_upto_region 15 with (fail)
    obtain ⟨w5, hw5⟩ : ∃ q0, q0 = (w4.setCell ⟨w.heap.size + 1, 5, none⟩ (.int .i64 b')) := ⟨_, rfl⟩
    rw [← hw5]
    have O5 : Hid (Own w5 (w.heap.size + 1) [.slice A way.length c, .int .i64 head, .int .i64 len, .int .i64 v', .int .i64 x, .int .i64 b', .int .i64 C.T.id, .string C.T.name, .int .i64 C.T.len, .int .i64 C.T.speed, .int .i64 C.T.accel, .int .i64 C.T.service, .int .i64 C.T.emergency, .int .i64 C.T.delay, .int .i64 C.T.cons, .int .i64 C.T.rate, .int .i64 C.mode, .int .i64 C.brake, .int .i64 C.next, .int .i64 C.emin, .int .i64 C.emax, .int .i64 C.espeed, .int .i64 C.seq, .int .i64 C.en, .slice B C.p.length cb, .slice K C.k.length ck, .int .i64 C.peer, .int .i64 C.out, .int .i64 C.inn, .int .i64 C.heard, .bool C.known, .int .i64 C.since]) := hw5 ▸ (O4.out.set 5 (by simp) (.int .i64 b'))
    have P5 : Hid (Own w5 (w.heap.size + 1 + 1) [.slice none 0 0, .int .i64 0, .int .i64 0, .int .i64 0, .int .i64 0, .int .i64 0, .int .i64 0, .string ⟨#[]⟩, .int .i64 0, .int .i64 0, .int .i64 0, .int .i64 0, .int .i64 0, .int .i64 0, .int .i64 0, .int .i64 0, .int .i64 0, .int .i64 0, .int .i64 0, .int .i64 0, .int .i64 0, .int .i64 0, .int .i64 0, .int .i64 0, .slice none 0 0, .slice none 0 0, .int .i64 0, .int .i64 0, .int .i64 0, .int .i64 0, .bool false, .int .i64 0]) := hw5 ▸ (P4.out.only (Only.set _ _ _ _) (by omega))
    have L5 : Hid (LayAt w5 w.heap.size L) := hw5 ▸ (L4.out.only (Only.set _ _ _ _) (by omega))
    have X5 : Hid (Ext w w5) := hw5 ▸ (eset X4.out (by omega) _ _)
    clear hw5 u3 u5 u17 uf3 uf5 uz r5 r6 r7 rz O4 P4 L4 X4 T4
    obtain ⟨l0, a0, a1, a2, a3, a4, a5⟩ := layAt_cells L5.out
    have u0 := O5.out.2.1 0 _ rfl
    have u1 := O5.out.2.1 1 _ rfl
    have u2 := O5.out.2.1 2 _ rfl
    have u3 := O5.out.2.1 3 _ rfl
    have uz := O5.out.1
    go_upto_region 16 with (go_at_call 49; refine (HMO.out _ X5.out).mono ?_; rintro e w6 ⟨A2, c2, hA2, rfl, hr2, hc2, hb⟩; have R6 : Hid (RdN (w.heap.size + 3) w6 A2 3 Stc mst) := ⟨hr2, fun a e => Nat.le_trans (by have := P5.out.1; omega) (hA2 a e)⟩; have C6 := Lib.hid hc2; have O6 := Lib.hid (O5.out.keep hb); have P6 := Lib.hid (P5.out.keep hb); have X6 := Lib.hid (etr X5.out hb); clear hA2 hr2 hc2 hb)
    have v0 := O6.out.2.1 0 _ rfl
    have v1 := O6.out.2.1 1 _ rfl
    have v2 := O6.out.2.1 2 _ rfl
    have v4 := O6.out.2.1 4 _ rfl
    have vf0 := O6.out.2.2 0
    have vf1 := O6.out.2.2 1
    have vf2 := O6.out.2.2 2
    have vf4 := O6.out.2.2 4
    have vz := O6.out.1
    have vz1 : w.heap.size + 1 < w6.heap.size + 1 := by omega
    go_upto_region 18 with (fail)
    obtain ⟨w7, hw7⟩ : ∃ q0, q0 = ((((w6.setCell ⟨w.heap.size + 1, 0, none⟩ (.slice A2 mst.length c2)).setCell ⟨w.heap.size + 1, 1, none⟩ (.int .i64 mh)).setCell ⟨w.heap.size + 1, 2, none⟩ (.int .i64 len)).setCell ⟨w.heap.size + 1, 4, none⟩ (.int .i64 (x + mm))).alloc (.cells #[.slice A2 mst.length c2, .int .i64 mh, .int .i64 len] 32) := ⟨_, rfl⟩
    rw [← hw7]
    have O7 : Hid (Own w7 (w.heap.size + 1) [.slice A2 mst.length c2, .int .i64 mh, .int .i64 len, .int .i64 v', .int .i64 (x + mm), .int .i64 b', .int .i64 C.T.id, .string C.T.name, .int .i64 C.T.len, .int .i64 C.T.speed, .int .i64 C.T.accel, .int .i64 C.T.service, .int .i64 C.T.emergency, .int .i64 C.T.delay, .int .i64 C.T.cons, .int .i64 C.T.rate, .int .i64 C.mode, .int .i64 C.brake, .int .i64 C.next, .int .i64 C.emin, .int .i64 C.emax, .int .i64 C.espeed, .int .i64 C.seq, .int .i64 C.en, .slice B C.p.length cb, .slice K C.k.length ck, .int .i64 C.peer, .int .i64 C.out, .int .i64 C.inn, .int .i64 C.heard, .bool C.known, .int .i64 C.since]) := hw7 ▸ Own.alloc ((((O6.out.set 0 (by simp) (.slice A2 mst.length c2)).set 1 (by simp) (.int .i64 mh)).set 2 (by simp) (.int .i64 len)).set 4 (by simp) (.int .i64 (x + mm))) _
    have P7 : Hid (Own w7 (w.heap.size + 1 + 1) [.slice none 0 0, .int .i64 0, .int .i64 0, .int .i64 0, .int .i64 0, .int .i64 0, .int .i64 0, .string ⟨#[]⟩, .int .i64 0, .int .i64 0, .int .i64 0, .int .i64 0, .int .i64 0, .int .i64 0, .int .i64 0, .int .i64 0, .int .i64 0, .int .i64 0, .int .i64 0, .int .i64 0, .int .i64 0, .int .i64 0, .int .i64 0, .int .i64 0, .slice none 0 0, .slice none 0 0, .int .i64 0, .int .i64 0, .int .i64 0, .int .i64 0, .bool false, .int .i64 0]) := hw7 ▸ Own.alloc ((((P6.out.only (Only.set _ _ _ _) (by omega)).only (Only.set _ _ _ _) (by omega)).only (Only.set _ _ _ _) (by omega)).only (Only.set _ _ _ _) (by omega)) _
    have X7 : Hid (Ext w w7) := hw7 ▸ eal (eset (eset (eset (eset X6.out (by omega) _ _) (by omega) _ _) (by omega) _ _) (by omega) _ _) _
    have R7 : Hid (RdN (w.heap.size + 3) w7 A2 3 Stc mst) := hw7 ▸ ((((R6.out.only (Only.set _ _ _ _) (by omega)).only (Only.set _ _ _ _) (by omega)).only (Only.set _ _ _ _) (by omega)).only (Only.set _ _ _ _) (by omega)).keep (eal (Ext.refl _) _)
    clear hw7 O6 P6 X6 R6 O5 P5 X5 L5 v0 v1 v2 v4 vf0 vf1 vf2 vf4 vz vz1 u0 u1 u2 u3 uz l0 a0 a1 a2 a3 a4 a5
    cases me
    · go_wp2_with (first | (refine wp_ldN 49 [.slice A2 mst.length c2, .int .i64 mh, .int .i64 len, .int .i64 v', .int .i64 (x + mm), .int .i64 b', .int .i64 C.T.id, .string C.T.name, .int .i64 C.T.len, .int .i64 C.T.speed, .int .i64 C.T.accel, .int .i64 C.T.service, .int .i64 C.T.emergency, .int .i64 C.T.delay, .int .i64 C.T.cons, .int .i64 C.T.rate, .int .i64 C.mode, .int .i64 C.brake, .int .i64 C.next, .int .i64 C.emin, .int .i64 C.emax, .int .i64 C.espeed, .int .i64 C.seq, .int .i64 C.en, .slice B C.p.length cb, .slice K C.k.length ck, .int .i64 C.peer, .int .i64 C.out, .int .i64 C.inn, .int .i64 C.heard, .bool C.known, .int .i64 C.since] rfl rfl rfl O7.out.cells Tryd.underlying49 szUnt rfl ?_) | (refine wp_stN 49 [.slice A2 mst.length c2, .int .i64 mh, .int .i64 len, .int .i64 v', .int .i64 (x + mm), .int .i64 b', .int .i64 C.T.id, .string C.T.name, .int .i64 C.T.len, .int .i64 C.T.speed, .int .i64 C.T.accel, .int .i64 C.T.service, .int .i64 C.T.emergency, .int .i64 C.T.delay, .int .i64 C.T.cons, .int .i64 C.T.rate, .int .i64 C.mode, .int .i64 C.brake, .int .i64 C.next, .int .i64 C.emin, .int .i64 C.emax, .int .i64 C.espeed, .int .i64 C.seq, .int .i64 C.en, .slice B C.p.length cb, .slice K C.k.length ck, .int .i64 C.peer, .int .i64 C.out, .int .i64 C.inn, .int .i64 C.heard, .bool C.known, .int .i64 C.since] [.slice A2 mst.length c2, .int .i64 mh, .int .i64 len, .int .i64 v', .int .i64 (x + mm), .int .i64 b', .int .i64 C.T.id, .string C.T.name, .int .i64 C.T.len, .int .i64 C.T.speed, .int .i64 C.T.accel, .int .i64 C.T.service, .int .i64 C.T.emergency, .int .i64 C.T.delay, .int .i64 C.T.cons, .int .i64 C.T.rate, .int .i64 C.mode, .int .i64 C.brake, .int .i64 C.next, .int .i64 C.emin, .int .i64 C.emax, .int .i64 C.espeed, .int .i64 C.seq, .int .i64 C.en, .slice B C.p.length cb, .slice K C.k.length ck, .int .i64 C.peer, .int .i64 C.out, .int .i64 C.inn, .int .i64 C.heard, .bool C.known, .int .i64 C.since] rfl rfl rfl P7.out rfl szUnt rfl (by show (0 + 32 : Nat) ≤ 32; decide) rfl ?_; intro w9 H9))
      refine bodyPost_ret (res_utt (by rfl) (by rfl) (by rfl) (by rfl) H9.out.1.cells Tryd.underlying49 szUnt) rfl ?_
      have X9 := Lib.hid (eonly X7.out H9.out.2 (by omega))
      refine ⟨A2, c2, B, cb, K, ck, by rw [HSV.out]; rfl, ?_, ⟨HB.out.keep X9.out, HBc.out⟩, ⟨HK.out.keep X9.out, HKc.out⟩, X9.out⟩
      rw [HSV.out]
      exact ⟨(R7.out.only H9.out.2 (by omega)).1, C6.out⟩
    · have v3 := O7.out.2.1 3 _ rfl
      have vf3 := O7.out.2.2 3
      have vz := O7.out.1
      go_upto_region 20 with (fail)
      obtain ⟨w8, hw8⟩ : ∃ q0, q0 = w7.setCell ⟨w.heap.size + 1, 3, none⟩ (.int .i64 0) := ⟨_, rfl⟩
      rw [← hw8]
      have O8 : Hid (Own w8 (w.heap.size + 1) [.slice A2 mst.length c2, .int .i64 mh, .int .i64 len, .int .i64 0, .int .i64 (x + mm), .int .i64 b', .int .i64 C.T.id, .string C.T.name, .int .i64 C.T.len, .int .i64 C.T.speed, .int .i64 C.T.accel, .int .i64 C.T.service, .int .i64 C.T.emergency, .int .i64 C.T.delay, .int .i64 C.T.cons, .int .i64 C.T.rate, .int .i64 C.mode, .int .i64 C.brake, .int .i64 C.next, .int .i64 C.emin, .int .i64 C.emax, .int .i64 C.espeed, .int .i64 C.seq, .int .i64 C.en, .slice B C.p.length cb, .slice K C.k.length ck, .int .i64 C.peer, .int .i64 C.out, .int .i64 C.inn, .int .i64 C.heard, .bool C.known, .int .i64 C.since]) := hw8 ▸ O7.out.set 3 (by simp) (.int .i64 0)
      have P8 : Hid (Own w8 (w.heap.size + 1 + 1) [.slice none 0 0, .int .i64 0, .int .i64 0, .int .i64 0, .int .i64 0, .int .i64 0, .int .i64 0, .string ⟨#[]⟩, .int .i64 0, .int .i64 0, .int .i64 0, .int .i64 0, .int .i64 0, .int .i64 0, .int .i64 0, .int .i64 0, .int .i64 0, .int .i64 0, .int .i64 0, .int .i64 0, .int .i64 0, .int .i64 0, .int .i64 0, .int .i64 0, .slice none 0 0, .slice none 0 0, .int .i64 0, .int .i64 0, .int .i64 0, .int .i64 0, .bool false, .int .i64 0]) := hw8 ▸ P7.out.only (Only.set _ _ _ _) (by omega)
      have X8 : Hid (Ext w w8) := hw8 ▸ eset X7.out (by omega) _ _
      have R8 : Hid (RdN (w.heap.size + 3) w8 A2 3 Stc mst) := hw8 ▸ R7.out.only (Only.set _ _ _ _) (by omega)
      clear hw8 O7 P7 X7 R7 v3 vf3 vz w7
      go_wp2_with (first | (refine wp_ldN 49 [.slice A2 mst.length c2, .int .i64 mh, .int .i64 len, .int .i64 0, .int .i64 (x + mm), .int .i64 b', .int .i64 C.T.id, .string C.T.name, .int .i64 C.T.len, .int .i64 C.T.speed, .int .i64 C.T.accel, .int .i64 C.T.service, .int .i64 C.T.emergency, .int .i64 C.T.delay, .int .i64 C.T.cons, .int .i64 C.T.rate, .int .i64 C.mode, .int .i64 C.brake, .int .i64 C.next, .int .i64 C.emin, .int .i64 C.emax, .int .i64 C.espeed, .int .i64 C.seq, .int .i64 C.en, .slice B C.p.length cb, .slice K C.k.length ck, .int .i64 C.peer, .int .i64 C.out, .int .i64 C.inn, .int .i64 C.heard, .bool C.known, .int .i64 C.since] rfl rfl rfl O8.out.cells Tryd.underlying49 szUnt rfl ?_) | (refine wp_stN 49 [.slice A2 mst.length c2, .int .i64 mh, .int .i64 len, .int .i64 0, .int .i64 (x + mm), .int .i64 b', .int .i64 C.T.id, .string C.T.name, .int .i64 C.T.len, .int .i64 C.T.speed, .int .i64 C.T.accel, .int .i64 C.T.service, .int .i64 C.T.emergency, .int .i64 C.T.delay, .int .i64 C.T.cons, .int .i64 C.T.rate, .int .i64 C.mode, .int .i64 C.brake, .int .i64 C.next, .int .i64 C.emin, .int .i64 C.emax, .int .i64 C.espeed, .int .i64 C.seq, .int .i64 C.en, .slice B C.p.length cb, .slice K C.k.length ck, .int .i64 C.peer, .int .i64 C.out, .int .i64 C.inn, .int .i64 C.heard, .bool C.known, .int .i64 C.since] [.slice A2 mst.length c2, .int .i64 mh, .int .i64 len, .int .i64 0, .int .i64 (x + mm), .int .i64 b', .int .i64 C.T.id, .string C.T.name, .int .i64 C.T.len, .int .i64 C.T.speed, .int .i64 C.T.accel, .int .i64 C.T.service, .int .i64 C.T.emergency, .int .i64 C.T.delay, .int .i64 C.T.cons, .int .i64 C.T.rate, .int .i64 C.mode, .int .i64 C.brake, .int .i64 C.next, .int .i64 C.emin, .int .i64 C.emax, .int .i64 C.espeed, .int .i64 C.seq, .int .i64 C.en, .slice B C.p.length cb, .slice K C.k.length ck, .int .i64 C.peer, .int .i64 C.out, .int .i64 C.inn, .int .i64 C.heard, .bool C.known, .int .i64 C.since] rfl rfl rfl P8.out rfl szUnt rfl (by show (0 + 32 : Nat) ≤ 32; decide) rfl ?_; intro w9 H9))
      refine bodyPost_ret (res_utt (by rfl) (by rfl) (by rfl) (by rfl) H9.out.1.cells Tryd.underlying49 szUnt) rfl ?_
      have X9 := Lib.hid (eonly X8.out H9.out.2 (by omega))
      refine ⟨A2, c2, B, cb, K, ck, by rw [HSV.out]; rfl, ?_, ⟨HB.out.keep X9.out, HBc.out⟩, ⟨HK.out.keep X9.out, HKc.out⟩, X9.out⟩
      rw [HSV.out]
      exact ⟨(R8.out.only H9.out.2 (by omega)).1, C6.out⟩
end
end Go.Proofs.YticonpjkcocgeaaDoor
