/- Walk of signallinglaw51.few. Printed by gen_few5.py. -/
import Derived.Test.YticonpjkcocgeaaDoorWChks
import Derived.Test.YticonpjkcocgeaaDoorWMotD
set_option linter.unusedVariables false
set_option linter.unusedSimpArgs false
set_option maxRecDepth 100000
namespace Go.Proofs.YticonpjkcocgeaaDoor
open Go.ChangeShapes Go.WideShapes Go.ChangeAt Go.RowKit
open Sg

/-- What few says. -/
structure Few5 (L : Lay) (pos : List Int) (way : List Stp) (C : Cu) : Prop where
  els : L.els.length ≤ 32
  pos : pos.length ≤ 60
  way : way.length ≤ 80
  p : C.p.length ≤ 200
  k : C.k.length ≤ 200
  name : C.T.name.size ≤ 200
  few : FewL L
  lay : LayV L
set_option maxHeartbeats 16000000 in
theorem few5_any (L : Lay) (Ap : Option Addr) (pos : List Int) (cp : Nat) (A : Option Addr) (way : List Stp) (c : Nat) (head len speed x br : Int) (C : Cu) (B : Option Addr) (cb : Nat) (K : Option Addr) (ck : Nat) (w : World) (hL : LayOk w L) (hn : C.T.name.size ≤ maxLen) :
    Calls Tryd.prog 8 #[.agg #[.string L.name, .slice L.aS L.secs.length L.cS, .slice L.aE L.els.length L.cE, .slice L.aJ L.jts.length L.cJ, .slice L.aG L.sgs.length L.cG, .slice L.aB L.bals.length L.cB], .slice Ap pos.length cp, .agg #[.slice A way.length c, .int .i64 head, .int .i64 len, .int .i64 speed, .int .i64 x, .int .i64 br, .int .i64 C.T.id, .string C.T.name, .int .i64 C.T.len, .int .i64 C.T.speed, .int .i64 C.T.accel, .int .i64 C.T.service, .int .i64 C.T.emergency, .int .i64 C.T.delay, .int .i64 C.T.cons, .int .i64 C.T.rate, .int .i64 C.mode, .int .i64 C.brake, .int .i64 C.next, .int .i64 C.emin, .int .i64 C.emax, .int .i64 C.espeed, .int .i64 C.seq, .int .i64 C.en, .slice B C.p.length cb, .slice K C.k.length ck, .int .i64 C.peer, .int .i64 C.out, .int .i64 C.inn, .int .i64 C.heard, .bool C.known, .int .i64 C.since]] w (RetB (fun b => b = true → Few5 L pos way C) w) := by
  have HL := Lib.hid hL
  clear hL
  have E0 : Hid (Ext w ((w.alloc (.cells #[.string L.name, .slice L.aS L.secs.length L.cS, .slice L.aE L.els.length L.cE, .slice L.aJ L.jts.length L.cJ, .slice L.aG L.sgs.length L.cG, .slice L.aB L.bals.length L.cB] 28)).alloc (.cells #[.slice A way.length c, .int .i64 head, .int .i64 len, .int .i64 speed, .int .i64 x, .int .i64 br, .int .i64 C.T.id, .string C.T.name, .int .i64 C.T.len, .int .i64 C.T.speed, .int .i64 C.T.accel, .int .i64 C.T.service, .int .i64 C.T.emergency, .int .i64 C.T.delay, .int .i64 C.T.cons, .int .i64 C.T.rate, .int .i64 C.mode, .int .i64 C.brake, .int .i64 C.next, .int .i64 C.emin, .int .i64 C.emax, .int .i64 C.espeed, .int .i64 C.seq, .int .i64 C.en, .slice B C.p.length cb, .slice K C.k.length ck, .int .i64 C.peer, .int .i64 C.out, .int .i64 C.inn, .int .i64 C.heard, .bool C.known, .int .i64 C.since] 49))) := eal (eal (Ext.refl _) _) _
  cases q0 : decide ((L.els.length : Int) ≤ 32)
  case false =>
    go_enter Tryd.func8, Tryd.ntmps8
    go_wp2
    go_ret
    exact RetB.mk (fun h => by cases h) E0.out
  cases q1 : decide ((L.jts.length : Int) ≤ 100)
  case false =>
    go_enter Tryd.func8, Tryd.ntmps8
    go_wp2
    go_ret
    exact RetB.mk (fun h => by cases h) E0.out
  cases q2 : decide ((L.bals.length : Int) ≤ 60)
  case false =>
    go_enter Tryd.func8, Tryd.ntmps8
    go_wp2
    go_ret
    exact RetB.mk (fun h => by cases h) E0.out
  cases q3 : decide ((L.sgs.length : Int) ≤ 60)
  case false =>
    go_enter Tryd.func8, Tryd.ntmps8
    go_wp2
    go_ret
    exact RetB.mk (fun h => by cases h) E0.out
  cases q4 : decide ((L.secs.length : Int) ≤ 60)
  case false =>
    go_enter Tryd.func8, Tryd.ntmps8
    go_wp2
    go_ret
    exact RetB.mk (fun h => by cases h) E0.out
  cases q5 : decide ((pos.length : Int) ≤ 60)
  case false =>
    go_enter Tryd.func8, Tryd.ntmps8
    go_wp2
    go_ret
    exact RetB.mk (fun h => by cases h) E0.out
  cases q6 : decide ((way.length : Int) ≤ 80)
  case false =>
    go_enter Tryd.func8, Tryd.ntmps8
    go_wp2
    go_ret
    exact RetB.mk (fun h => by cases h) E0.out
  cases q7 : decide ((C.p.length : Int) ≤ 200)
  case false =>
    go_enter Tryd.func8, Tryd.ntmps8
    go_wp2
    go_ret
    exact RetB.mk (fun h => by cases h) E0.out
  cases q8 : decide ((C.k.length : Int) ≤ 200)
  case false =>
    go_enter Tryd.func8, Tryd.ntmps8
    go_wp2
    go_ret
    exact RetB.mk (fun h => by cases h) E0.out
  cases q9 : decide ((C.T.name.size : Int) ≤ 200)
  case false =>
    go_enter Tryd.func8, Tryd.ntmps8
    go_wp2
    go_ret
    exact RetB.mk (fun h => by cases h) E0.out
  have HQ : Hid (Few5 L pos way C ∨ True) := .inr trivial
  have HF : Hid (L.els.length ≤ 32 ∧ L.jts.length ≤ 100 ∧ L.bals.length ≤ 60 ∧ L.sgs.length ≤ 60 ∧ L.secs.length ≤ 60 ∧ pos.length ≤ 60 ∧ way.length ≤ 80 ∧ C.p.length ≤ 200 ∧ C.k.length ≤ 200 ∧ C.T.name.size ≤ 200) := ⟨by have := of_decide_eq_true q0; omega, by have := of_decide_eq_true q1; omega, by have := of_decide_eq_true q2; omega, by have := of_decide_eq_true q3; omega, by have := of_decide_eq_true q4; omega, by have := of_decide_eq_true q5; omega, by have := of_decide_eq_true q6; omega, by have := of_decide_eq_true q7; omega, by have := of_decide_eq_true q8; omega, by have := of_decide_eq_true q9; omega⟩
  have HFL : Hid (FewL L) := by
    have h := HF.out
    exact ⟨h.2.2.2.2.1, by omega, h.2.1, h.2.2.2.1, h.2.2.1⟩
  go_enter Tryd.func8, Tryd.ntmps8
  go_wp2_with (go_at_call 25; refine (check5_any L _ (HL.out.keep E0.out) HFL.out).mono ?_; rintro e w2 ⟨n2, rfl, hp, hb⟩; have H2 := Lib.hid hb; have HP := Lib.hid hp; clear hb hp)
  go_ret
  have h := HF.out
  exact RetB.mk (fun h2 => ⟨h.1, h.2.2.2.2.2.1, h.2.2.2.2.2.2.1, h.2.2.2.2.2.2.2.1, h.2.2.2.2.2.2.2.2.1, h.2.2.2.2.2.2.2.2.2, HFL.out, HP.out (by simpa using h2)⟩) (etr E0.out H2.out)
end Go.Proofs.YticonpjkcocgeaaDoor
