/- Walks of chapter 34's laws: Stops. -/
import Derived.Test.YthkknagicdanfaaWLawI6
import Derived.Deep.Cut
set_option linter.unusedVariables false
set_option linter.unusedSimpArgs false
namespace Go.Proofs.Ythkknagicdanfaa
open Go.ChangeShapes Go.WideShapes Go.ChangeAt Go.RowKit
open Sg

set_option maxHeartbeats 32000000 in
set_option maxRecDepth 100000 in
theorem stops_early (T : Tr) (sq en : Int) (A LA : Option Addr) (p : List Sgm) (cap ln lc : Nat) (X V Bk Fr Fa : Int) (TA : Option Addr) (ts : List Trn) (tc : Nat) (w : World) (hs : T.name.size ≤ maxLen) (hpl : p.length ≤ maxLen) (htl : ts.length ≤ maxLen) (hr : Rd w A 4 Sgc p) (ht : Rd w TA 3 Trc ts) (hI : ∀ (i : Nat) (x : Trn), ts[i]? = some x → TrnI x) (hbad : (100 : Int) < (ts.length : Int) ∨ X < 0 ∨ 268435456 < X ∨ V < 0 ∨ 10000 < V ∨ Bk < 0 ∨ X < Bk ∨ Fr < 0 ∨ 1048576 < Fr ∨ Fa < 0 ∨ 1048576 < Fa ∨ en < 0 ∨ 268435456 < en) :
    Calls Try.prog 7 #[.agg #[.int .i64 T.id, .string T.name, .int .i64 T.len, .int .i64 T.speed, .int .i64 T.accel, .int .i64 T.service, .int .i64 T.emergency, .int .i64 T.delay, .int .i64 T.cons, .int .i64 T.rate], .agg #[.int .i64 sq, .int .i64 en, .slice A p.length cap, .slice LA ln lc], .agg #[.int .i64 X, .int .i64 V, .int .i64 Bk, .int .i64 Fr, .int .i64 Fa, .slice TA ts.length tc]] w fun e w' => e = .returned (.bool true) ∧ Below w.heap.size w w' := by
  have HR := Lib.hid hr
  have HT := Lib.hid ht
  have HI := Lib.hid hI
  clear hr ht hI
  by_cases g0 : (100 : Int) < (ts.length : Int)
  · have g0d : decide ((100 : Int) < (ts.length : Int)) = true := decide_eq_true g0
    go_enter Try.func7, Try.ntmps7
    go_wp2_with (go_at_call 13; refine (to_after (alive_any _)).mono ?_; rintro e w' ⟨z, rfl, rfl⟩)
    go_ret
    exact ⟨rfl, etr (eal (eal (eal (eal (Ext.refl w) _) _) _) _) z.is⟩
  have g0d : decide ((100 : Int) < (ts.length : Int)) = false := decide_eq_false g0
  by_cases g1 : X < 0
  · have g1d : decide (X < 0) = true := decide_eq_true g1
    go_enter Try.func7, Try.ntmps7
    go_wp2_with (go_at_call 13; refine (to_after (alive_any _)).mono ?_; rintro e w' ⟨z, rfl, rfl⟩)
    go_ret
    exact ⟨rfl, etr (eal (eal (eal (eal (Ext.refl w) _) _) _) _) z.is⟩
  have g1d : decide (X < 0) = false := decide_eq_false g1
  by_cases g2 : 268435456 < X
  · have g2d : decide (268435456 < X) = true := decide_eq_true g2
    go_enter Try.func7, Try.ntmps7
    go_wp2_with (go_at_call 13; refine (to_after (alive_any _)).mono ?_; rintro e w' ⟨z, rfl, rfl⟩)
    go_ret
    exact ⟨rfl, etr (eal (eal (eal (eal (Ext.refl w) _) _) _) _) z.is⟩
  have g2d : decide (268435456 < X) = false := decide_eq_false g2
  by_cases g3 : V < 0
  · have g3d : decide (V < 0) = true := decide_eq_true g3
    go_enter Try.func7, Try.ntmps7
    go_wp2_with (go_at_call 13; refine (to_after (alive_any _)).mono ?_; rintro e w' ⟨z, rfl, rfl⟩)
    go_ret
    exact ⟨rfl, etr (eal (eal (eal (eal (Ext.refl w) _) _) _) _) z.is⟩
  have g3d : decide (V < 0) = false := decide_eq_false g3
  by_cases g4 : 10000 < V
  · have g4d : decide (10000 < V) = true := decide_eq_true g4
    go_enter Try.func7, Try.ntmps7
    go_wp2_with (go_at_call 13; refine (to_after (alive_any _)).mono ?_; rintro e w' ⟨z, rfl, rfl⟩)
    go_ret
    exact ⟨rfl, etr (eal (eal (eal (eal (Ext.refl w) _) _) _) _) z.is⟩
  have g4d : decide (10000 < V) = false := decide_eq_false g4
  by_cases g5 : Bk < 0
  · have g5d : decide (Bk < 0) = true := decide_eq_true g5
    go_enter Try.func7, Try.ntmps7
    go_wp2_with (go_at_call 13; refine (to_after (alive_any _)).mono ?_; rintro e w' ⟨z, rfl, rfl⟩)
    go_ret
    exact ⟨rfl, etr (eal (eal (eal (eal (Ext.refl w) _) _) _) _) z.is⟩
  have g5d : decide (Bk < 0) = false := decide_eq_false g5
  by_cases g6 : X < Bk
  · have g6d : decide (X < Bk) = true := decide_eq_true g6
    go_enter Try.func7, Try.ntmps7
    go_wp2_with (go_at_call 13; refine (to_after (alive_any _)).mono ?_; rintro e w' ⟨z, rfl, rfl⟩)
    go_ret
    exact ⟨rfl, etr (eal (eal (eal (eal (Ext.refl w) _) _) _) _) z.is⟩
  have g6d : decide (X < Bk) = false := decide_eq_false g6
  by_cases g7 : Fr < 0
  · have g7d : decide (Fr < 0) = true := decide_eq_true g7
    go_enter Try.func7, Try.ntmps7
    go_wp2_with (go_at_call 13; refine (to_after (alive_any _)).mono ?_; rintro e w' ⟨z, rfl, rfl⟩)
    go_ret
    exact ⟨rfl, etr (eal (eal (eal (eal (Ext.refl w) _) _) _) _) z.is⟩
  have g7d : decide (Fr < 0) = false := decide_eq_false g7
  by_cases g8 : 1048576 < Fr
  · have g8d : decide (1048576 < Fr) = true := decide_eq_true g8
    go_enter Try.func7, Try.ntmps7
    go_wp2_with (go_at_call 13; refine (to_after (alive_any _)).mono ?_; rintro e w' ⟨z, rfl, rfl⟩)
    go_ret
    exact ⟨rfl, etr (eal (eal (eal (eal (Ext.refl w) _) _) _) _) z.is⟩
  have g8d : decide (1048576 < Fr) = false := decide_eq_false g8
  by_cases g9 : Fa < 0
  · have g9d : decide (Fa < 0) = true := decide_eq_true g9
    go_enter Try.func7, Try.ntmps7
    go_wp2_with (go_at_call 13; refine (to_after (alive_any _)).mono ?_; rintro e w' ⟨z, rfl, rfl⟩)
    go_ret
    exact ⟨rfl, etr (eal (eal (eal (eal (Ext.refl w) _) _) _) _) z.is⟩
  have g9d : decide (Fa < 0) = false := decide_eq_false g9
  by_cases g10 : 1048576 < Fa
  · have g10d : decide (1048576 < Fa) = true := decide_eq_true g10
    go_enter Try.func7, Try.ntmps7
    go_wp2_with (go_at_call 13; refine (to_after (alive_any _)).mono ?_; rintro e w' ⟨z, rfl, rfl⟩)
    go_ret
    exact ⟨rfl, etr (eal (eal (eal (eal (Ext.refl w) _) _) _) _) z.is⟩
  have g10d : decide (1048576 < Fa) = false := decide_eq_false g10
  by_cases g11 : en < 0
  · have g11d : decide (en < 0) = true := decide_eq_true g11
    go_enter Try.func7, Try.ntmps7
    go_wp2_with (go_at_call 13; refine (to_after (alive_any _)).mono ?_; rintro e w' ⟨z, rfl, rfl⟩)
    go_ret
    exact ⟨rfl, etr (eal (eal (eal (eal (Ext.refl w) _) _) _) _) z.is⟩
  have g11d : decide (en < 0) = false := decide_eq_false g11
  by_cases g12 : 268435456 < en
  · have g12d : decide (268435456 < en) = true := decide_eq_true g12
    go_enter Try.func7, Try.ntmps7
    go_wp2_with (go_at_call 13; refine (to_after (alive_any _)).mono ?_; rintro e w' ⟨z, rfl, rfl⟩)
    go_ret
    exact ⟨rfl, etr (eal (eal (eal (eal (Ext.refl w) _) _) _) _) z.is⟩
  have g12d : decide (268435456 < en) = false := decide_eq_false g12
  exfalso
  omega
end Go.Proofs.Ythkknagicdanfaa
