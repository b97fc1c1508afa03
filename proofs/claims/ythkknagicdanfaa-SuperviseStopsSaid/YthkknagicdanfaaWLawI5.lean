/- Walks of chapter 34's laws: Stops: a movement. -/
import Derived.Test.YthkknagicdanfaaWLawI2
import Derived.Test.YthkknagicdanfaaWOdo3
set_option linter.unusedVariables false
set_option linter.unusedSimpArgs false
namespace Go.Proofs.Ythkknagicdanfaa
open Go.ChangeShapes Go.WideShapes Go.ChangeAt Go.RowKit
open Sg

theorem and15 (m : Int) : 0 ≤ bits .and .i64 m 15 ∧ bits .and .i64 m 15 ≤ 15 := by
  have h : (BitVec.ofInt 64 m &&& BitVec.ofInt 64 15).toNat ≤ 15 := by rw [BitVec.toNat_and]; exact Nat.le_trans Nat.and_le_right (by decide)
  have e : bits .and .i64 m 15 = IntKind.i64.wrap (((BitVec.ofInt 64 m &&& BitVec.ofInt 64 15).toNat : Nat) : Int) := rfl
  rw [e, IntWalk.i64_in _ (by omega)]
  omega
set_option maxHeartbeats 4000000 in
theorem move_free (T : Tr) (A : Option Addr) (p : List Sgm) (cap : Nat) (push more slip brake x v b : Int) (w : World) (hb : (brake != 2) = true) (hv : 0 ≤ v ∧ v ≤ 10000) (hp : I64 push) (ha : 0 ≤ T.accel ∧ T.accel ≤ 2147483648) :
    Calls Try.prog 17 #[.agg #[.int .i64 T.id, .string T.name, .int .i64 T.len, .int .i64 T.speed, .int .i64 T.accel, .int .i64 T.service, .int .i64 T.emergency, .int .i64 T.delay, .int .i64 T.cons, .int .i64 T.rate], .slice A p.length cap, .agg #[.int .i64 push, .int .i64 more, .int .i64 slip], .int .i64 brake, .int .i64 x, .int .i64 v, .int .i64 b] w fun e w' => e = .returned (.tuple #[.int .i64 (max 0 (min (v + min push T.accel) 10000)), .int .i64 0]) ∧ Below w.heap.size w w' := by
  have HE0 := Lib.hid (eal (eal (Ext.refl w) (.cells #[.int .i64 T.id, .string T.name, .int .i64 T.len, .int .i64 T.speed, .int .i64 T.accel, .int .i64 T.service, .int .i64 T.emergency, .int .i64 T.delay, .int .i64 T.cons, .int .i64 T.rate] 23)) (.cells #[.int .i64 push, .int .i64 more, .int .i64 slip] 44))
  go_enter Try.func17, Try.ntmps17
  go_wp2
  all_goals
    go_ret2
    exact ⟨ret_int2 (by unfold I64 at *; simp only [wrap64] at *; omega) rfl, HE0.out⟩
set_option maxHeartbeats 4000000 in
theorem move_brake (T : Tr) (A : Option Addr) (p : List Sgm) (cap : Nat) (push more slip x v b : Int) (w : World) (hm : p.length ≤ 1000000) (hr : Rd w A 4 Sgc p) (hv : 0 ≤ v ∧ v ≤ 10000) (hb0 : 0 ≤ b ∧ b ≤ 1000) (hd : T.delay < b + 1) :
    Calls Try.prog 17 #[.agg #[.int .i64 T.id, .string T.name, .int .i64 T.len, .int .i64 T.speed, .int .i64 T.accel, .int .i64 T.service, .int .i64 T.emergency, .int .i64 T.delay, .int .i64 T.cons, .int .i64 T.rate], .slice A p.length cap, .agg #[.int .i64 push, .int .i64 more, .int .i64 slip], .int .i64 2, .int .i64 x, .int .i64 v, .int .i64 b] w fun e w' => e = .returned (.tuple #[.int .i64 (max 0 (v - effV T.emergency (steepV p x x) - bits .and .i64 more 15)), .int .i64 (b + 1)]) ∧ Below w.heap.size w w' := by
  have HR := Lib.hid hr
  clear hr
  have HE0 := Lib.hid (eal (eal (Ext.refl w) (.cells #[.int .i64 T.id, .string T.name, .int .i64 T.len, .int .i64 T.speed, .int .i64 T.accel, .int .i64 T.service, .int .i64 T.emergency, .int .i64 T.delay, .int .i64 T.cons, .int .i64 T.rate] 23)) (.cells #[.int .i64 push, .int .i64 more, .int .i64 slip] 44))
  have hbw := IntWalk.i64_in (b + 1) (by omega)
  have hdd : decide (T.delay < b + 1) = true := decide_eq_true hd
  obtain ⟨st, hst⟩ : ∃ st, st = steepV p x x := ⟨_, rfl⟩
  have HSC : Hid (∀ xx, Rd xx A 4 Sgc p → Calls Try.prog 31 #[.slice A p.length cap, .int .i64 x, .int .i64 x] xx fun e w' => e = .returned (.int .i64 st) ∧ Below xx.heap.size xx w') := fun xx hx => by rw [hst]; exact rsteep_any A p cap x x xx hm hx
  obtain ⟨ef, hef⟩ : ∃ ef, ef = effV T.emergency st := ⟨_, rfl⟩
  have HEC : Hid (∀ xx, Calls Try.prog 30 #[.int .i64 T.emergency, .int .i64 st] xx fun e w' => e = .returned (.int .i64 ef) ∧ xx = w') := fun xx => by rw [hef]; exact reff_any _ _ xx
  have hefb : 0 ≤ ef ∧ ef ≤ 1181 := by rw [hef]; exact effV_bd _ _
  rw [← hst, ← hef]
  clear hst hef
  obtain ⟨m5, hm5⟩ : ∃ m5, m5 = bits .and .i64 more 15 := ⟨_, rfl⟩
  have hm5b := and15 more
  rw [← hm5] at hm5b ⊢
  have hm6 := hm5.symm
  clear hm5
  have hw1 := IntWalk.i64_in (v - ef) (by omega)
  have hw2 := IntWalk.i64_in (v - ef - m5) (by omega)
  go_enter Try.func17, Try.ntmps17
  go_wp2_with fail
  refine wp_region_after (by kernel_rfl) (by kernel_rfl) ?_
  repeat (first | go_big_quiet_step ((first
    | (go_at_call 31; exact after_call _ (HSC.out _ (HR.out.keep (etr HE0.out (After.is _)))))
    | (go_at_call 30; exact after_same _ (HEC.out _)))))
  refine wpQuiet_nil ?_
  rintro _ ⟨y, rfl⟩
  go_wp2
  all_goals
    go_ret2
    exact ⟨ret_int2 (by first | omega | (simp only [wrap64] at *; omega)) rfl, etr HE0.out y.is⟩
theorem move_wait (T : Tr) (A : Option Addr) (p : List Sgm) (cap : Nat) (push more slip x v b : Int) (w : World) (hb0 : 0 ≤ b ∧ b ≤ 1000) (hd : ¬ T.delay < b + 1) :
    Calls Try.prog 17 #[.agg #[.int .i64 T.id, .string T.name, .int .i64 T.len, .int .i64 T.speed, .int .i64 T.accel, .int .i64 T.service, .int .i64 T.emergency, .int .i64 T.delay, .int .i64 T.cons, .int .i64 T.rate], .slice A p.length cap, .agg #[.int .i64 push, .int .i64 more, .int .i64 slip], .int .i64 2, .int .i64 x, .int .i64 v, .int .i64 b] w fun e w' => e = .returned (.tuple #[.int .i64 v, .int .i64 (b + 1)]) ∧ Below w.heap.size w w' := by
  have HE0 := Lib.hid (eal (eal (Ext.refl w) (.cells #[.int .i64 T.id, .string T.name, .int .i64 T.len, .int .i64 T.speed, .int .i64 T.accel, .int .i64 T.service, .int .i64 T.emergency, .int .i64 T.delay, .int .i64 T.cons, .int .i64 T.rate] 23)) (.cells #[.int .i64 push, .int .i64 more, .int .i64 slip] 44))
  have hbw := IntWalk.i64_in (b + 1) (by omega)
  have hdd : decide (T.delay < b + 1) = false := decide_eq_false hd
  go_enter Try.func17, Try.ntmps17
  go_wp2
  go_ret2
  exact ⟨rfl, HE0.out⟩
end Go.Proofs.Ythkknagicdanfaa
