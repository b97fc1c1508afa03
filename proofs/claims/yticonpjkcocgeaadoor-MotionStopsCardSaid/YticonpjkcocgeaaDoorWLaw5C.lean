/- Walk of MotionStops. Printed by gen_law5c.py. -/
import Derived.Test.YticonpjkcocgeaaDoorWAlv5
import Derived.Test.YticonpjkcocgeaaDoorWFew5
import Derived.Test.YticonpjkcocgeaaDoorWMotF
import Derived.Test.YticonpjkcocgeaaDoorWStp5
set_option linter.unusedVariables false
set_option linter.unusedSimpArgs false
set_option maxRecDepth 100000
namespace Go.Proofs.YticonpjkcocgeaaDoor
open Go.ChangeShapes Go.WideShapes Go.ChangeAt Go.RowKit
open Sg

/-- What lay there before is read as it was, though a younger block was written. -/
theorem Rd.keep' {α : Type} {u v w : World} {A : Option Addr} {k b : Nat} {enc : α → List Value} {xs : List α} (h : Rd u A k enc xs) (g : Ext u v) (n : Only b v w) (hb : u.heap.size ≤ b) : Rd w A k enc xs := h.keep (eonly g n hb)
section
set_option maxHeartbeats 32000000
theorem law_stops (L : Lay) (Ap : Option Addr) (pos : List Int) (cp : Nat) (A : Option Addr) (way : List Stp) (c : Nat) (head len speed x br : Int) (C : Cu) (B : Option Addr) (cb : Nat) (K : Option Addr) (ck : Nat) (want : Int) (w : World) (hL : LayOk w L) (hT : Tabs w) (hp : RdI w Ap pos) (hpm : pos.length ≤ maxLen) (hr : Rd w A 3 Stc way) (hc : way.length ≤ c) (hpr : Rd w B 4 Sgc C.p) (hpc : C.p.length ≤ cb) (hk : Rd w K 2 Lkc C.k) (hkc : C.k.length ≤ ck) (hn : C.T.name.size ≤ maxLen) (hi : I64 speed) :
    Calls Tryd.prog 4 #[.agg #[.string L.name, .slice L.aS L.secs.length L.cS, .slice L.aE L.els.length L.cE, .slice L.aJ L.jts.length L.cJ, .slice L.aG L.sgs.length L.cG, .slice L.aB L.bals.length L.cB], .slice Ap pos.length cp, .agg #[.slice A way.length c, .int .i64 head, .int .i64 len, .int .i64 speed, .int .i64 x, .int .i64 br, .int .i64 C.T.id, .string C.T.name, .int .i64 C.T.len, .int .i64 C.T.speed, .int .i64 C.T.accel, .int .i64 C.T.service, .int .i64 C.T.emergency, .int .i64 C.T.delay, .int .i64 C.T.cons, .int .i64 C.T.rate, .int .i64 C.mode, .int .i64 C.brake, .int .i64 C.next, .int .i64 C.emin, .int .i64 C.emax, .int .i64 C.espeed, .int .i64 C.seq, .int .i64 C.en, .slice B C.p.length cb, .slice K C.k.length ck, .int .i64 C.peer, .int .i64 C.out, .int .i64 C.inn, .int .i64 C.heard, .bool C.known, .int .i64 C.since], .int .i64 want] w fun e w' => e = .returned (.bool true) ∧ Below w.heap.size w w' := by
  obtain ⟨w1, hw⟩ : ∃ w1, w1 = ((w.alloc (.cells #[.string L.name, .slice L.aS L.secs.length L.cS, .slice L.aE L.els.length L.cE, .slice L.aJ L.jts.length L.cJ, .slice L.aG L.sgs.length L.cG, .slice L.aB L.bals.length L.cB] 28)).alloc (.cells #[.slice A way.length c, .int .i64 head, .int .i64 len, .int .i64 speed, .int .i64 x, .int .i64 br, .int .i64 C.T.id, .string C.T.name, .int .i64 C.T.len, .int .i64 C.T.speed, .int .i64 C.T.accel, .int .i64 C.T.service, .int .i64 C.T.emergency, .int .i64 C.T.delay, .int .i64 C.T.cons, .int .i64 C.T.rate, .int .i64 C.mode, .int .i64 C.brake, .int .i64 C.next, .int .i64 C.emin, .int .i64 C.emax, .int .i64 C.espeed, .int .i64 C.seq, .int .i64 C.en, .slice B C.p.length cb, .slice K C.k.length ck, .int .i64 C.peer, .int .i64 C.out, .int .i64 C.inn, .int .i64 C.heard, .bool C.known, .int .i64 C.since] 49)) := ⟨_, rfl⟩
  have E1 : Hid (Ext w w1) := by rw [hw]; exact eal (eal (Ext.refl _) _) _
  have L1 : Hid (LayAt w1 w.heap.size L) := by rw [hw]; exact CellsAt.alloc (CellsAt.new rfl) _
  have O1 : Hid (Own w1 (w.heap.size + 1) [.slice A way.length c, .int .i64 head, .int .i64 len, .int .i64 speed, .int .i64 x, .int .i64 br, .int .i64 C.T.id, .string C.T.name, .int .i64 C.T.len, .int .i64 C.T.speed, .int .i64 C.T.accel, .int .i64 C.T.service, .int .i64 C.T.emergency, .int .i64 C.T.delay, .int .i64 C.T.cons, .int .i64 C.T.rate, .int .i64 C.mode, .int .i64 C.brake, .int .i64 C.next, .int .i64 C.emin, .int .i64 C.emax, .int .i64 C.espeed, .int .i64 C.seq, .int .i64 C.en, .slice B C.p.length cb, .slice K C.k.length ck, .int .i64 C.peer, .int .i64 C.out, .int .i64 C.inn, .int .i64 C.heard, .bool C.known, .int .i64 C.since]) := by rw [hw]; exact Own.new (cs := #[.slice A way.length c, .int .i64 head, .int .i64 len, .int .i64 speed, .int .i64 x, .int .i64 br, .int .i64 C.T.id, .string C.T.name, .int .i64 C.T.len, .int .i64 C.T.speed, .int .i64 C.T.accel, .int .i64 C.T.service, .int .i64 C.T.emergency, .int .i64 C.T.delay, .int .i64 C.T.cons, .int .i64 C.T.rate, .int .i64 C.mode, .int .i64 C.brake, .int .i64 C.next, .int .i64 C.emin, .int .i64 C.emax, .int .i64 C.espeed, .int .i64 C.seq, .int .i64 C.en, .slice B C.p.length cb, .slice K C.k.length ck, .int .i64 C.peer, .int .i64 C.out, .int .i64 C.inn, .int .i64 C.heard, .bool C.known, .int .i64 C.since]) (t := 49) (by simp)
  have HL := Lib.hid hL
  have HT := Lib.hid hT
  have HP := Lib.hid hp
  have HR := Lib.hid hr
  have HPR := Lib.hid hpr
  have HK := Lib.hid hk
  have HN := Lib.hid hn
  have HC := Lib.hid hc
  have HPC := Lib.hid hpc
  have HKC := Lib.hid hkc
  have HPM := Lib.hid hpm
  have HFW : Hid (∀ w', Ext w w' → Calls Tryd.prog 8 #[.agg #[.string L.name, .slice L.aS L.secs.length L.cS, .slice L.aE L.els.length L.cE, .slice L.aJ L.jts.length L.cJ, .slice L.aG L.sgs.length L.cG, .slice L.aB L.bals.length L.cB], .slice Ap pos.length cp, .agg #[.slice A way.length c, .int .i64 head, .int .i64 len, .int .i64 speed, .int .i64 x, .int .i64 br, .int .i64 C.T.id, .string C.T.name, .int .i64 C.T.len, .int .i64 C.T.speed, .int .i64 C.T.accel, .int .i64 C.T.service, .int .i64 C.T.emergency, .int .i64 C.T.delay, .int .i64 C.T.cons, .int .i64 C.T.rate, .int .i64 C.mode, .int .i64 C.brake, .int .i64 C.next, .int .i64 C.emin, .int .i64 C.emax, .int .i64 C.espeed, .int .i64 C.seq, .int .i64 C.en, .slice B C.p.length cb, .slice K C.k.length ck, .int .i64 C.peer, .int .i64 C.out, .int .i64 C.inn, .int .i64 C.heard, .bool C.known, .int .i64 C.since]] w' (RetB (fun b => b = true → Few5 L pos way C) w')) := fun w' h => few5_any L Ap pos cp A way c head len speed x br C B cb K ck w' (HL.out.keep h) HN.out
  have HAL : Hid (∀ w', Ext w w' → Calls Tryd.prog 9 #[] w' fun e w2 => e = .returned (.bool true) ∧ Below w'.heap.size w' w2) := fun w' h => alive5_any w' (HT.out.keep h)
  obtain ⟨gb, hgb⟩ : ∃ gb, gb = goodB L.els L.jts C.T way head len speed x br := ⟨_, rfl⟩
  have HGB := Lib.hid hgb
  have HGD : Hid (Few5 L pos way C → ∀ w', Ext w w' → Calls Tryd.prog 12 #[.agg #[.string L.name, .slice L.aS L.secs.length L.cS, .slice L.aE L.els.length L.cE, .slice L.aJ L.jts.length L.cJ, .slice L.aG L.sgs.length L.cG, .slice L.aB L.bals.length L.cB], .agg #[.slice A way.length c, .int .i64 head, .int .i64 len, .int .i64 speed, .int .i64 x, .int .i64 br, .int .i64 C.T.id, .string C.T.name, .int .i64 C.T.len, .int .i64 C.T.speed, .int .i64 C.T.accel, .int .i64 C.T.service, .int .i64 C.T.emergency, .int .i64 C.T.delay, .int .i64 C.T.cons, .int .i64 C.T.rate, .int .i64 C.mode, .int .i64 C.brake, .int .i64 C.next, .int .i64 C.emin, .int .i64 C.emax, .int .i64 C.espeed, .int .i64 C.seq, .int .i64 C.en, .slice B C.p.length cb, .slice K C.k.length ck, .int .i64 C.peer, .int .i64 C.out, .int .i64 C.inn, .int .i64 C.heard, .bool C.known, .int .i64 C.since]] w' fun e w2 => e = .returned (.bool gb) ∧ Below w'.heap.size w' w2) := fun F w' h => by
    have := rgood_any L A way c head len speed x br C B cb K ck w' (HL.out.keep h) F.lay.els (HR.out.keep h) (by have := F.way; omega) HC.out HN.out
    rw [← HGB.out] at this; exact this
  have HGU : Hid (gb = true → GoodU L.els L.jts C.T way head len speed x br) := fun hg => by rw [HGB.out] at hg; exact goodB_true.1 hg
  have HST : Hid (Few5 L pos way C → ∀ (A1 : Option Addr) (l1 : List Stp) (c1 : Nat) (h1 v1 x1 b1 : Int) (B1 : Option Addr) (cb1 : Nat) (K1 : Option Addr) (ck1 : Nat) w', Ext w w' → l1.length ≤ 200 → Rd w' A1 3 Stc l1 → Rd w' B1 4 Sgc C.p → Rd w' K1 2 Lkc C.k → Calls Tryd.prog 17 #[.agg #[.string L.name, .slice L.aS L.secs.length L.cS, .slice L.aE L.els.length L.cE, .slice L.aJ L.jts.length L.cJ, .slice L.aG L.sgs.length L.cG, .slice L.aB L.bals.length L.cB], .slice Ap pos.length cp, .agg #[.slice A1 l1.length c1, .int .i64 h1, .int .i64 len, .int .i64 v1, .int .i64 x1, .int .i64 b1, .int .i64 C.T.id, .string C.T.name, .int .i64 C.T.len, .int .i64 C.T.speed, .int .i64 C.T.accel, .int .i64 C.T.service, .int .i64 C.T.emergency, .int .i64 C.T.delay, .int .i64 C.T.cons, .int .i64 C.T.rate, .int .i64 C.mode, .int .i64 2, .int .i64 C.next, .int .i64 C.emin, .int .i64 C.emax, .int .i64 C.espeed, .int .i64 C.seq, .int .i64 C.en, .slice B1 C.p.length cb1, .slice K1 C.k.length ck1, .int .i64 C.peer, .int .i64 C.out, .int .i64 C.inn, .int .i64 C.heard, .bool C.known, .int .i64 C.since], .int .i64 want] w' fun e w2 => ∃ A2 c2 B2 cb2 K2 ck2,
      e = .returned (.tuple #[.agg #[.slice A2 (stepV L.els L.jts pos C.T 2 l1 h1 len v1 x1 b1 want).steps.length c2, .int .i64 (stepV L.els L.jts pos C.T 2 l1 h1 len v1 x1 b1 want).head, .int .i64 len, .int .i64 (stepV L.els L.jts pos C.T 2 l1 h1 len v1 x1 b1 want).speed, .int .i64 (stepV L.els L.jts pos C.T 2 l1 h1 len v1 x1 b1 want).x, .int .i64 (stepV L.els L.jts pos C.T 2 l1 h1 len v1 x1 b1 want).braking, .int .i64 C.T.id, .string C.T.name, .int .i64 C.T.len, .int .i64 C.T.speed, .int .i64 C.T.accel, .int .i64 C.T.service, .int .i64 C.T.emergency, .int .i64 C.T.delay, .int .i64 C.T.cons, .int .i64 C.T.rate, .int .i64 C.mode, .int .i64 2, .int .i64 C.next, .int .i64 C.emin, .int .i64 C.emax, .int .i64 C.espeed, .int .i64 C.seq, .int .i64 C.en, .slice B2 C.p.length cb2, .slice K2 C.k.length ck2, .int .i64 C.peer, .int .i64 C.out, .int .i64 C.inn, .int .i64 C.heard, .bool C.known, .int .i64 C.since], .int .i64 (stepV L.els L.jts pos C.T 2 l1 h1 len v1 x1 b1 want).n, .bool (stepV L.els L.jts pos C.T 2 l1 h1 len v1 x1 b1 want).ended]) ∧
      (RdN w'.heap.size w2 A2 3 Stc (stepV L.els L.jts pos C.T 2 l1 h1 len v1 x1 b1 want).steps ∧ (stepV L.els L.jts pos C.T 2 l1 h1 len v1 x1 b1 want).steps.length ≤ c2) ∧ (RdN w'.heap.size w2 B2 4 Sgc C.p ∧ C.p.length ≤ cb2) ∧ (RdN w'.heap.size w2 K2 2 Lkc C.k ∧ C.k.length ≤ ck2) ∧ Below w'.heap.size w' w2) := fun F A1 l1 c1 h1 v1 x1 b1 B1 cb1 K1 ck1 w' h hl hr1 hp1 hk1 =>
    stepN_any L Ap pos cp A1 l1 c1 h1 len v1 x1 b1 { C with brake := 2 } B1 cb1 K1 ck1 want w' (HL.out.keep h) (HT.out.keep h) F.lay.els F.lay.jts F.els (HP.out.below h (Nat.le_refl _)) HPM.out hr1 hl hp1 (by have := F.p; show C.p.length ≤ 1000; omega) hk1 (by have := F.k; show C.k.length ≤ 1000; omega) HN.out
  have HSE : Hid (Few5 L pos way C → ∀ w', Ext w w' → Calls Tryd.prog 14 #[.agg #[.string L.name, .slice L.aS L.secs.length L.cS, .slice L.aE L.els.length L.cE, .slice L.aJ L.jts.length L.cJ, .slice L.aG L.sgs.length L.cG, .slice L.aB L.bals.length L.cB]] w' fun e w2 => e = .returned (.int .i64 (steepL L.els)) ∧ Below w'.heap.size w' w2) := fun F w' h => steep_any L w' (HL.out.keep h) F.lay.els
  clear hgb
  clear hL hT hp hr hpr hk hn hc hpc hkc hpm
  go_enter Tryd.func4, Tryd.ntmps4
  go_upto_region 1 with (fail)
  rw [← hw]
  clear hw
  obtain ⟨l0, a0, a1, a2, a3, a4, a5⟩ := layAt_cells L1.out
  go_wp2_with (refine wp_ldN 49 [.slice A way.length c, .int .i64 head, .int .i64 len, .int .i64 speed, .int .i64 x, .int .i64 br, .int .i64 C.T.id, .string C.T.name, .int .i64 C.T.len, .int .i64 C.T.speed, .int .i64 C.T.accel, .int .i64 C.T.service, .int .i64 C.T.emergency, .int .i64 C.T.delay, .int .i64 C.T.cons, .int .i64 C.T.rate, .int .i64 C.mode, .int .i64 C.brake, .int .i64 C.next, .int .i64 C.emin, .int .i64 C.emax, .int .i64 C.espeed, .int .i64 C.seq, .int .i64 C.en, .slice B C.p.length cb, .slice K C.k.length ck, .int .i64 C.peer, .int .i64 C.out, .int .i64 C.inn, .int .i64 C.heard, .bool C.known, .int .i64 C.since] rfl rfl rfl O1.out.cells Tryd.underlying49 szUnt rfl ?_)
  clear l0 a0 a1 a2 a3 a4 a5
  refine (HFW.out _ E1.out).mono ?_
  rintro e w2 ⟨bb, rfl, hP, hb⟩
  have HF := Lib.hid hP
  have E2 := Lib.hid (etr E1.out hb)
  have L2 : Hid (LayAt w2 w.heap.size L) := L1.out.keep hb
  have O2 := Lib.hid (O1.out.keep hb)
  clear hP hb
  cases bb
  · go_wp2_with fail
    refine (HAL.out _ E2.out).mono ?_
    rintro e w3 ⟨rfl, hb⟩
    have E3 := Lib.hid (etr E2.out hb)
    clear hb
    go_wp2
    go_ret
    exact ⟨rfl, E3.out⟩
  have HFF := Lib.hid (HF.out rfl)
  have HGG := Lib.hid (HGD.out HFF.out)
  have HSS := Lib.hid (HST.out HFF.out)
  have HSEE := Lib.hid (HSE.out HFF.out)
  clear HF HST HGD HSE HGB
  obtain ⟨l0, a0, a1, a2, a3, a4, a5⟩ := layAt_cells L2.out
  go_wp2_with (refine wp_ldG 49 [.slice A way.length c, .int .i64 head, .int .i64 len, .int .i64 speed, .int .i64 x, .int .i64 br, .int .i64 C.T.id, .string C.T.name, .int .i64 C.T.len, .int .i64 C.T.speed, .int .i64 C.T.accel, .int .i64 C.T.service, .int .i64 C.T.emergency, .int .i64 C.T.delay, .int .i64 C.T.cons, .int .i64 C.T.rate, .int .i64 C.mode, .int .i64 C.brake, .int .i64 C.next, .int .i64 C.emin, .int .i64 C.emax, .int .i64 C.espeed, .int .i64 C.seq, .int .i64 C.en, .slice B C.p.length cb, .slice K C.k.length ck, .int .i64 C.peer, .int .i64 C.out, .int .i64 C.inn, .int .i64 C.heard, .bool C.known, .int .i64 C.since] rfl rfl rfl O2.out.cells Tryd.underlying49 szUnt rfl ?_)
  clear l0 a0 a1 a2 a3 a4 a5
  refine (HGG.out _ E2.out).mono ?_
  rintro e w3 ⟨rfl, hb⟩
  have E3 := Lib.hid (etr E2.out hb)
  have L3 : Hid (LayAt w3 w.heap.size L) := L2.out.keep hb
  have O3 := Lib.hid (O2.out.keep hb)
  clear hb
  cases gb
  · go_wp2_with fail
    refine (HAL.out _ E3.out).mono ?_
    rintro e w4 ⟨rfl, hb⟩
    have E4 := Lib.hid (etr E3.out hb)
    clear hb
    go_wp2
    go_ret
    exact ⟨rfl, E4.out⟩
  have HGO := Lib.hid (HGU.out rfl)
  clear HGU
  go_upto_region 4 with (refine wp_ldN 35 [.int .i64 C.T.id, .string C.T.name, .int .i64 C.T.len, .int .i64 C.T.speed, .int .i64 C.T.accel, .int .i64 C.T.service, .int .i64 C.T.emergency, .int .i64 C.T.delay, .int .i64 C.T.cons, .int .i64 C.T.rate] rfl rfl rfl O3.out.cells Tryd.underlying35 szTr rfl ?_)
  obtain ⟨w4, hw⟩ : ∃ w4, w4 = w3.alloc (.cells #[.int .i64 C.T.id, .string C.T.name, .int .i64 C.T.len, .int .i64 C.T.speed, .int .i64 C.T.accel, .int .i64 C.T.service, .int .i64 C.T.emergency, .int .i64 C.T.delay, .int .i64 C.T.cons, .int .i64 C.T.rate] 35) := ⟨_, rfl⟩
  rw [← hw]
  have g4 : Ext w3 w4 := by rw [hw]; exact eal (Ext.refl _) _
  have E4 := Lib.hid (etr E3.out g4)
  have L4 : Hid (LayAt w4 w.heap.size L) := L3.out.keep g4
  have O4 := Lib.hid (O3.out.keep g4)
  have T4 : Hid (Own w4 w3.heap.size [.int .i64 C.T.id, .string C.T.name, .int .i64 C.T.len, .int .i64 C.T.speed, .int .i64 C.T.accel, .int .i64 C.T.service, .int .i64 C.T.emergency, .int .i64 C.T.delay, .int .i64 C.T.cons, .int .i64 C.T.rate]) := by rw [hw]; exact Own.new (cs := #[.int .i64 C.T.id, .string C.T.name, .int .i64 C.T.len, .int .i64 C.T.speed, .int .i64 C.T.accel, .int .i64 C.T.service, .int .i64 C.T.emergency, .int .i64 C.T.delay, .int .i64 C.T.cons, .int .i64 C.T.rate]) (t := 35) rfl
  have Z4 : Hid (w.heap.size + 1 < w3.heap.size) := O3.out.1
  clear hw g4
  obtain ⟨st, hst⟩ : ∃ st, st = steepL L.els := ⟨_, rfl⟩
  have HSD := Lib.hid hst
  rw [← hst] at HSEE
  have hsb := steepL_bd (els := L.els) (fun k q h => by have := HFF.out.lay.els k q h; omega)
  rw [← hst] at hsb
  have n1 : IntKind.i64.wrap (-st) = -st := IntWalk.i64_in _ (by omega)
  obtain ⟨D, hD⟩ : ∃ D, D = effV C.T.emergency (-st) := ⟨_, rfl⟩
  have HDD := Lib.hid hD
  have HEF : Hid (∀ x : World, Calls Tryd.prog 13 #[.int .i64 C.T.emergency, .int .i64 (-st)] x fun e w' => e = .returned (.int .i64 D) ∧ x = w') := fun x => by
    have := eff_any C.T.emergency (-st) x
    rw [← HDD.out] at this; exact this
  clear hst hD hsb
  obtain ⟨l0, a0, a1, a2, a3, a4, a5⟩ := layAt_cells L4.out
  have r6 := T4.out.cells.2 6 _ rfl
  have rz := T4.out.cells.1
  refine wp_region_after (by kernel_rfl) (by kernel_rfl) ?_
  repeat (first | go_big_quiet_step ((first | (go_at_call 14; exact after_call _ (HSEE.out _ (etr E4.out (After.is _)))) | (go_at_call 13; exact after_same _ (HEF.out _)))))
  refine wpQuiet_nil ?_
  rintro _ ⟨y, rfl⟩
  clear r6 rz
  clear l0 a0 a1 a2 a3 a4 a5
  have E5 := Lib.hid (etr E4.out y.is)
  have L5 : Hid (LayAt y.val w.heap.size L) := L4.out.keep y.is
  have O5 := Lib.hid (O4.out.keep y.is)
  have T5 := Lib.hid (T4.out.keep y.is)
  have o4 := O5.out.cells.2 4 _ rfl
  have oz := O5.out.cells.1
  have key : (decide (D < 20) = true ∨ (decide (D < 20) = false ∧ decide (536870912 < x) = true)) ∨ (decide (D < 20) = false ∧ decide (536870912 < x) = false) := by
    cases decide (D < 20) <;> cases decide (536870912 < x) <;> simp
  rcases key with key | ⟨q1, q2⟩
  · rcases key with q1 | ⟨q1, q2⟩
    all_goals
      go_wp2_with fail
      clear o4 oz
      refine (HAL.out _ E5.out).mono ?_
      rintro e w6 ⟨rfl, hb⟩
      have E6 := Lib.hid (etr E5.out hb)
      clear hb
      go_wp2
      go_ret
      exact ⟨rfl, E6.out⟩
  have HD20 : Hid (20 ≤ D) := by have := of_decide_eq_false q1; show _ ≤ _; omega
  have HX29 : Hid (x ≤ 536870912) := by have := of_decide_eq_false q2; show _ ≤ _; omega
  have o17 := O5.out.cells.2 17 _ rfl
  have of17 := O5.out.2.2 17
  go_upto_region 8 with (fail)
  obtain ⟨w6, hw, hO6, hN6⟩ := setO 17 (.int .i64 2) O5.out (by simp)
  have O6 : Hid (Own w6 (w.heap.size + 1) [.slice A way.length c, .int .i64 head, .int .i64 len, .int .i64 speed, .int .i64 x, .int .i64 br, .int .i64 C.T.id, .string C.T.name, .int .i64 C.T.len, .int .i64 C.T.speed, .int .i64 C.T.accel, .int .i64 C.T.service, .int .i64 C.T.emergency, .int .i64 C.T.delay, .int .i64 C.T.cons, .int .i64 C.T.rate, .int .i64 C.mode, .int .i64 2, .int .i64 C.next, .int .i64 C.emin, .int .i64 C.emax, .int .i64 C.espeed, .int .i64 C.seq, .int .i64 C.en, .slice B C.p.length cb, .slice K C.k.length ck, .int .i64 C.peer, .int .i64 C.out, .int .i64 C.inn, .int .i64 C.heard, .bool C.known, .int .i64 C.since]) := hO6
  have N6 := Lib.hid hN6
  rw [← hw]
  have E6 : Hid (Ext w w6) := eonly E5.out hN6 (by omega)
  have L6 : Hid (LayAt w6 w.heap.size L) := L5.out.only hN6 (show w.heap.size ≠ w.heap.size + 1 by omega)
  have T6 : Hid (Own w6 w3.heap.size [.int .i64 C.T.id, .string C.T.name, .int .i64 C.T.len, .int .i64 C.T.speed, .int .i64 C.T.accel, .int .i64 C.T.service, .int .i64 C.T.emergency, .int .i64 C.T.delay, .int .i64 C.T.cons, .int .i64 C.T.rate]) := T5.out.only hN6 (by have := Z4.out; omega)
  clear hw hO6 hN6 o4 oz o17 of17 q1 q2
  have hgs := HGO.out.speed
  have hdl := (chkE_ok HGO.out.tr).delay
  have ht1 := timV_any speed D C.T.delay
  have ht2 := tim_small (v := speed) (dec := D) (delay := C.T.delay) (by omega) HD20.out hdl
  have hd1 := dst_small (v := speed) (dec := D) (delay := C.T.delay) hgs HD20.out hdl
  have hst := BrkI.start (X0 := x) HD20.out HGO.out
  obtain ⟨nn, hnn⟩ : ∃ nn : Nat, timV speed D C.T.delay = (nn : Int) := ⟨(timV speed D C.T.delay).toNat, by omega⟩
  obtain ⟨most, hmost⟩ : ∃ most, most = dstV speed D C.T.delay := ⟨_, rfl⟩
  have HNN := Lib.hid hnn
  have HMM := Lib.hid hmost
  have hef := effV_bd C.T.emergency (-st)
  rw [← HDD.out] at hef
  have HTM : Hid (∀ x : World, Calls Tryd.prog 15 #[.int .i64 speed, .int .i64 D, .int .i64 C.T.delay] x fun e w' => e = .returned (.int .i64 (nn : Int)) ∧ x = w') := fun x => by
    have := time_any speed D C.T.delay (by omega) x
    rw [HNN.out] at this; exact this
  have HDI : Hid (∀ x : World, Calls Tryd.prog 16 #[.int .i64 speed, .int .i64 D, .int .i64 C.T.delay] x fun e w' => e = .returned (.int .i64 most) ∧ x = w') := fun x => by
    have := dist_any speed D C.T.delay (by omega) x
    rw [← HMM.out] at this; exact this
  rw [hnn] at ht2 hst
  rw [← hmost] at hd1 hst
  have HSI := Lib.hid hst
  have HN5 : Hid (nn ≤ 520) := by show _ ≤ _; omega
  have HMB : Hid (0 ≤ most ∧ most ≤ 400200000) := hd1
  have HDE : Hid (D ≤ effV C.T.emergency (-(steepL L.els))) := by show _ ≤ _; rw [← HSD.out, ← HDD.out]; exact Int.le_refl _
  clear hgs hdl ht1 ht2 hd1 hst hnn hmost hef
  have o3 := O6.out.cells.2 3 _ rfl
  have oz := O6.out.cells.1
  have r7 := T6.out.cells.2 7 _ rfl
  have rz := T6.out.cells.1
  go_wp2_with (first | (go_at_call 15; refine (HTM.out _).mono ?_; rintro e w' ⟨rfl, rfl⟩) | (go_at_call 16; refine (HDI.out _).mono ?_; rintro e w' ⟨rfl, rfl⟩))
  clear o3 oz r7 rz
  go_loopg [13, 14] nn (fun g x13 x14 wr => ∃ (i : Nat) (s : Int) (A1 : Option Addr) (l1 : List Stp) (c1 : Nat) (h1 v1 x1 b1 : Int) (B1 : Option Addr) (cb1 : Nat) (K1 : Option Addr) (ck1 : Nat), x14 = .int .i64 i ∧ x13 = .int .i64 s ∧ i ≤ nn ∧ g = nn - i ∧ Hid (Ext w wr) ∧ Hid (LayAt wr w.heap.size L) ∧ Hid (Own wr (w.heap.size + 1) [.slice A1 l1.length c1, .int .i64 h1, .int .i64 len, .int .i64 v1, .int .i64 x1, .int .i64 b1, .int .i64 C.T.id, .string C.T.name, .int .i64 C.T.len, .int .i64 C.T.speed, .int .i64 C.T.accel, .int .i64 C.T.service, .int .i64 C.T.emergency, .int .i64 C.T.delay, .int .i64 C.T.cons, .int .i64 C.T.rate, .int .i64 C.mode, .int .i64 2, .int .i64 C.next, .int .i64 C.emin, .int .i64 C.emax, .int .i64 C.espeed, .int .i64 C.seq, .int .i64 C.en, .slice B1 C.p.length cb1, .slice K1 C.k.length ck1, .int .i64 C.peer, .int .i64 C.out, .int .i64 C.inn, .int .i64 C.heard, .bool C.known, .int .i64 C.since]) ∧ Hid (Rd wr A1 3 Stc l1 ∧ Rd wr B1 4 Sgc C.p ∧ Rd wr K1 2 Lkc C.k) ∧ Hid (BrkI L.els L.jts C.T D x most ((nn : Int) - (i : Int)) l1 h1 len v1 x1 b1 s))
  case atStart => exact ⟨0, 0, A, way, c, head, speed, x, br, B, cb, K, ck, rfl, rfl, by omega, by omega, E6.out, L6.out, O6.out, ⟨HR.out.keep' E5.out N6.out (by omega), HPR.out.keep' E5.out N6.out (by omega), HK.out.keep' E5.out N6.out (by omega)⟩, Lib.hid (by simpa using HSI.out)⟩
  case round =>
    obtain ⟨wi, rfl⟩ : ∃ wi : World, wi = wr := ⟨_, rfl⟩
    obtain ⟨i, s, A1, l1, c1, h1, v1, x1, b1, B1, cb1, K1, ck1, rfl, rfl, hi2, hg, X, LX, O, RR, HI⟩ := hrel
    have HG := Lib.hid hg
    clear hg
    have hmb := HMB.out
    have hn5 := HN5.out
    have hs0 := HI.out.s0
    have hsd := HI.out.dst
    have hd0 := (dstV_bd v1 D (max 0 (C.T.delay - b1))).1
    have hsm : s ≤ most := by omega
    clear hsd hd0
    by_cases hlt : i < nn
    · have q0 : decide ((i : Int) < (nn : Int)) = true := decide_eq_true (by omega)
      have q1 : decide ((i : Int) < 1000) = true := decide_eq_true (by have := HN5.out; omega)
      obtain ⟨R, hR⟩ : ∃ R, R = stepV L.els L.jts pos C.T 2 l1 h1 len v1 x1 b1 want := ⟨_, rfl⟩
      have hnx := BrkI.next (pos := pos) (want := want) (fun el h => by obtain ⟨k, y, _, hy, e⟩ := has_at h; rw [e]; exact (HFF.out.lay.els k y hy).2.2.1) (join_has HFF.out.lay.jts) HFF.out.els HD20.out HDE.out HX29.out (by omega) HI.out hR
      have HNX := Lib.hid hnx.1
      have hn0 := hnx.2
      have hlen := (chkM_zero.1 HI.out.good.body).1.1.2.1
      have HCS := Lib.hid (HSS.out A1 l1 c1 h1 v1 x1 b1 B1 cb1 K1 ck1 wi X.out (by omega) RR.out.1 RR.out.2.1 RR.out.2.2)
      rw [← hR] at HCS
      have n2 : IntKind.i64.wrap (s + R.n) = s + R.n := IntWalk.i64_in _ (by omega)
      clear hnx hlen hR
      have hwz : Hid (w.heap.size + 1 < wi.heap.size) := O.out.1
      obtain ⟨l0, a0, a1, a2, a3, a4, a5⟩ := layAt_cells LX.out
      go_wp2_with (refine wp_ldN 49 [.slice A1 l1.length c1, .int .i64 h1, .int .i64 len, .int .i64 v1, .int .i64 x1, .int .i64 b1, .int .i64 C.T.id, .string C.T.name, .int .i64 C.T.len, .int .i64 C.T.speed, .int .i64 C.T.accel, .int .i64 C.T.service, .int .i64 C.T.emergency, .int .i64 C.T.delay, .int .i64 C.T.cons, .int .i64 C.T.rate, .int .i64 C.mode, .int .i64 2, .int .i64 C.next, .int .i64 C.emin, .int .i64 C.emax, .int .i64 C.espeed, .int .i64 C.seq, .int .i64 C.en, .slice B1 C.p.length cb1, .slice K1 C.k.length ck1, .int .i64 C.peer, .int .i64 C.out, .int .i64 C.inn, .int .i64 C.heard, .bool C.known, .int .i64 C.since] rfl rfl rfl O.out.cells Tryd.underlying49 szUnt rfl ?_)
      clear l0 a0 a1 a2 a3 a4 a5
      refine HCS.out.mono ?_
      rintro e w7 ⟨A2, c2, B2, cb2, K2, ck2, rfl, hr2, hp2, hk2, hb⟩
      have X7 := Lib.hid (etr X.out hb)
      have L7 : Hid (LayAt w7 w.heap.size L) := LX.out.keep hb
      have O7 := Lib.hid (O.out.keep hb)
      have R7 := Lib.hid hr2.1
      have P7 := Lib.hid hp2.1
      have K7 := Lib.hid hk2.1
      clear hr2 hp2 hk2 hb HCS
      go_upto_region 15 with (refine wp_stN 49 [.slice A2 R.steps.length c2, .int .i64 R.head, .int .i64 len, .int .i64 R.speed, .int .i64 R.x, .int .i64 R.braking, .int .i64 C.T.id, .string C.T.name, .int .i64 C.T.len, .int .i64 C.T.speed, .int .i64 C.T.accel, .int .i64 C.T.service, .int .i64 C.T.emergency, .int .i64 C.T.delay, .int .i64 C.T.cons, .int .i64 C.T.rate, .int .i64 C.mode, .int .i64 2, .int .i64 C.next, .int .i64 C.emin, .int .i64 C.emax, .int .i64 C.espeed, .int .i64 C.seq, .int .i64 C.en, .slice B2 C.p.length cb2, .slice K2 C.k.length ck2, .int .i64 C.peer, .int .i64 C.out, .int .i64 C.inn, .int .i64 C.heard, .bool C.known, .int .i64 C.since] [.slice A2 R.steps.length c2, .int .i64 R.head, .int .i64 len, .int .i64 R.speed, .int .i64 R.x, .int .i64 R.braking, .int .i64 C.T.id, .string C.T.name, .int .i64 C.T.len, .int .i64 C.T.speed, .int .i64 C.T.accel, .int .i64 C.T.service, .int .i64 C.T.emergency, .int .i64 C.T.delay, .int .i64 C.T.cons, .int .i64 C.T.rate, .int .i64 C.mode, .int .i64 2, .int .i64 C.next, .int .i64 C.emin, .int .i64 C.emax, .int .i64 C.espeed, .int .i64 C.seq, .int .i64 C.en, .slice B2 C.p.length cb2, .slice K2 C.k.length ck2, .int .i64 C.peer, .int .i64 C.out, .int .i64 C.inn, .int .i64 C.heard, .bool C.known, .int .i64 C.since] rfl rfl rfl (Own.new (w := w7) (cs := #[.slice none 0 0, .int .i64 0, .int .i64 0, .int .i64 0, .int .i64 0, .int .i64 0, .int .i64 0, .string ⟨#[]⟩, .int .i64 0, .int .i64 0, .int .i64 0, .int .i64 0, .int .i64 0, .int .i64 0, .int .i64 0, .int .i64 0, .int .i64 0, .int .i64 0, .int .i64 0, .int .i64 0, .int .i64 0, .int .i64 0, .int .i64 0, .int .i64 0, .slice none 0 0, .slice none 0 0, .int .i64 0, .int .i64 0, .int .i64 0, .int .i64 0, .bool false, .int .i64 0]) (t := 49) rfl) rfl szUnt rfl (by show (0 + 32 : Nat) ≤ 32; decide) rfl ?_; intro w8 H8)
      have g8 : Ext w7 w8 := eonly (eal (Ext.refl _) _) H8.out.2 (Nat.le_refl _)
      have X8 := Lib.hid (etr X7.out g8)
      have L8 : Hid (LayAt w8 w.heap.size L) := L7.out.keep g8
      have O8 := Lib.hid (O7.out.keep g8)
      have N8 := Lib.hid H8.out.1
      have R8 := Lib.hid (R7.out.keep g8)
      have P8 := Lib.hid (P7.out.keep g8)
      have K8 := Lib.hid (K7.out.keep g8)
      clear g8
      go_upto_region 16 with (first | (refine wp_ldN 49 [.slice A2 R.steps.length c2, .int .i64 R.head, .int .i64 len, .int .i64 R.speed, .int .i64 R.x, .int .i64 R.braking, .int .i64 C.T.id, .string C.T.name, .int .i64 C.T.len, .int .i64 C.T.speed, .int .i64 C.T.accel, .int .i64 C.T.service, .int .i64 C.T.emergency, .int .i64 C.T.delay, .int .i64 C.T.cons, .int .i64 C.T.rate, .int .i64 C.mode, .int .i64 2, .int .i64 C.next, .int .i64 C.emin, .int .i64 C.emax, .int .i64 C.espeed, .int .i64 C.seq, .int .i64 C.en, .slice B2 C.p.length cb2, .slice K2 C.k.length ck2, .int .i64 C.peer, .int .i64 C.out, .int .i64 C.inn, .int .i64 C.heard, .bool C.known, .int .i64 C.since] rfl rfl rfl N8.out.cells Tryd.underlying49 szUnt rfl ?_) | (refine wp_stN 49 [.slice A2 R.steps.length c2, .int .i64 R.head, .int .i64 len, .int .i64 R.speed, .int .i64 R.x, .int .i64 R.braking, .int .i64 C.T.id, .string C.T.name, .int .i64 C.T.len, .int .i64 C.T.speed, .int .i64 C.T.accel, .int .i64 C.T.service, .int .i64 C.T.emergency, .int .i64 C.T.delay, .int .i64 C.T.cons, .int .i64 C.T.rate, .int .i64 C.mode, .int .i64 2, .int .i64 C.next, .int .i64 C.emin, .int .i64 C.emax, .int .i64 C.espeed, .int .i64 C.seq, .int .i64 C.en, .slice B2 C.p.length cb2, .slice K2 C.k.length ck2, .int .i64 C.peer, .int .i64 C.out, .int .i64 C.inn, .int .i64 C.heard, .bool C.known, .int .i64 C.since] [.slice A2 R.steps.length c2, .int .i64 R.head, .int .i64 len, .int .i64 R.speed, .int .i64 R.x, .int .i64 R.braking, .int .i64 C.T.id, .string C.T.name, .int .i64 C.T.len, .int .i64 C.T.speed, .int .i64 C.T.accel, .int .i64 C.T.service, .int .i64 C.T.emergency, .int .i64 C.T.delay, .int .i64 C.T.cons, .int .i64 C.T.rate, .int .i64 C.mode, .int .i64 2, .int .i64 C.next, .int .i64 C.emin, .int .i64 C.emax, .int .i64 C.espeed, .int .i64 C.seq, .int .i64 C.en, .slice B2 C.p.length cb2, .slice K2 C.k.length ck2, .int .i64 C.peer, .int .i64 C.out, .int .i64 C.inn, .int .i64 C.heard, .bool C.known, .int .i64 C.since] rfl rfl rfl O8.out rfl szUnt rfl (by show (0 + 32 : Nat) ≤ 32; decide) rfl ?_; intro w9 H9))
      have X9 : Hid (Ext w w9) := eonly X8.out H9.out.2 (by omega)
      have L9 : Hid (LayAt w9 w.heap.size L) := L8.out.only H9.out.2 (show w.heap.size ≠ w.heap.size + 1 by omega)
      have O9 := Lib.hid H9.out.1
      have R9 := Lib.hid (R8.out.only H9.out.2 hwz.out).1
      have P9 := Lib.hid (P8.out.only H9.out.2 hwz.out).1
      have K9 := Lib.hid (K8.out.only H9.out.2 hwz.out).1
      go_wp2
      go_roundg (nn - (i + 1))
      case measure => have := HG.out; omega
      case rel => exact ⟨i + 1, s + R.n, A2, R.steps, c2, R.head, R.speed, R.x, R.braking, B2, cb2, K2, ck2, by go_num, rfl, by omega, rfl, X9.out, L9.out, O9.out, ⟨R9.out, P9.out, K9.out⟩, by
        have h := HNX.out
        have e : max 0 ((nn : Int) - (i : Int) - 1) = (nn : Int) - ((i + 1 : Nat) : Int) := by omega
        rw [e] at h
        exact h⟩
    · have e : i = nn := by omega
      have hz : v1 = 0 := by
        have h1 := timV_lo (by have := HD20.out; omega) (show timV v1 D (max 0 (C.T.delay - b1)) ≤ 0 by have := HI.out.tim; omega)
        have h2 := HI.out.good.speed
        omega
      have q0 : decide ((i : Int) < (nn : Int)) = false := decide_eq_false (by omega)
      have q1 : (v1 == 0) = true := by simpa using hz
      have q2 : decide (s ≤ most) = true := decide_eq_true hsm
      clear hz e
      have o3 := O.out.cells.2 3 _ rfl
      have oz := O.out.cells.1
      go_wp2_with fail
      clear o3 oz
      refine (HAL.out _ X.out).mono ?_
      rintro e w8 ⟨rfl, hb⟩
      have E8 := Lib.hid (etr X.out hb)
      clear hb
      go_wp2
      go_ret
      exact ⟨rfl, E8.out⟩
end
end Go.Proofs.YticonpjkcocgeaaDoor
