/- Walks of chapter 34's laws: Stops: a cycle, in one word. -/
import Derived.Test.YthkknagicdanfaaWLawI5
import Derived.Test.YthkknagicdanfaaOpenRun
set_option linter.unusedVariables false
set_option linter.unusedSimpArgs false
namespace Go.Proofs.Ythkknagicdanfaa
open Go.ChangeShapes Go.WideShapes Go.ChangeAt Go.RowKit
open Sg

theorem move_ok (T : Tr) (A : Option Addr) (p : List Sgm) (cap : Nat) (E : Es) (en br x v b D : Int) (u : Trn) (hT : TrOk T) (hm : p.length ≤ 1000000) (hI : TrnI u) (hS : SupOk T p en x v b D) (hen : en ≤ 268435456) (hb : b ≤ 1000) (h1 : E.min ≤ x) (h2 : x ≤ E.max) (h3 : v ≤ E.speed) :
    ∃ v' b' D', SupOk T p en (x + v') v' b' D' ∧ b' ≤ b + 1 ∧ Hid (∀ w, Rd w A 4 Sgc p → Calls Try.prog 17 #[.agg #[.int .i64 T.id, .string T.name, .int .i64 T.len, .int .i64 T.speed, .int .i64 T.accel, .int .i64 T.service, .int .i64 T.emergency, .int .i64 T.delay, .int .i64 T.cons, .int .i64 T.rate], .slice A p.length cap, .agg #[.int .i64 u.push, .int .i64 u.more, .int .i64 u.slip], .int .i64 (decdV T p E en br), .int .i64 x, .int .i64 v, .int .i64 b] w fun e w' => e = .returned (.tuple #[.int .i64 v', .int .i64 b']) ∧ Below w.heap.size w w') := by
  have hd0 : 0 ≤ T.delay ∧ T.delay ≤ 5 := by have := hT.delay; omega
  have ha : 0 ≤ T.accel ∧ T.accel ≤ 2147483648 := by have := hT.accel; omega
  have hv : 0 ≤ v ∧ v ≤ 10000 := ⟨hS.v0, hS.v1⟩
  by_cases h : decdV T p E en br = 2
  · rw [h]
    have k := sup_brake hS hd0.1 hd0.2 hen (and15 u.more).1
    by_cases hd : T.delay < b + 1
    · simp only [if_pos hd] at k
      exact ⟨_, _, D, k.1, by omega, fun w hr => move_brake T A p cap u.push u.more u.slip x v b w hm hr hv ⟨hS.b0, hb⟩ hd⟩
    · simp only [if_neg hd] at k
      exact ⟨_, _, D, k.1, by omega, fun w hr => move_wait T A p cap u.push u.more u.slip x v b w ⟨hS.b0, hb⟩ hd⟩
  · obtain ⟨k1, _⟩ := decd_not h
    exact ⟨_, 0, _, sup_free (push := u.push) k1 h1 h2 h3 hS.x0 hS.v0 ha.1 hd0.1 rfl, by have := hS.b0; omega, fun w hr => move_free T A p cap u.push u.more u.slip _ x v b w (by simpa using h) hv hI.1 ha⟩
/-- What holds between two cycles. -/
structure StopsInv (w wr : World) (T : Tr) (sq en : Int) (A LA : Option Addr) (p : List Sgm) (cap ln lc : Nat) (x v br b : Int) (E : Es) (j : Nat) : Prop where
  ext : Ext w wr
  t : CellsAt wr w.heap.size ([.int .i64 T.id, .string T.name, .int .i64 T.len, .int .i64 T.speed, .int .i64 T.accel, .int .i64 T.service, .int .i64 T.emergency, .int .i64 T.delay, .int .i64 T.cons, .int .i64 T.rate])
  a : CellsAt wr (w.heap.size + 1) [.int .i64 sq, .int .i64 en, .slice A p.length cap, .slice LA ln lc]
  e : Own wr (w.heap.size + 1 + 1 + 1) ([.int .i64 E.min, .int .i64 E.max, .int .i64 E.speed])
  sup : ∃ D, SupOk T p en x v b D
  bj : b ≤ j
  h1 : E.min ≤ x
  h2 : x ≤ E.max
  h3 : v ≤ E.speed
  m1 : -1073741824 ≤ E.min ∧ E.min ≤ 1073741824
  m2 : -1073741824 ≤ E.max ∧ E.max ≤ 1073741824
  m3 : E.speed ≤ 2147483648
theorem StopsInv.keep {w wr wn : World} {T : Tr} {sq en : Int} {A LA : Option Addr} {p : List Sgm} {cap ln lc : Nat} {x v br b : Int} {E : Es} {j : Nat} (h : StopsInv w wr T sq en A LA p cap ln lc x v br b E j) (hb : Below wr.heap.size wr wn) : StopsInv w wn T sq en A LA p cap ln lc x v br b E j :=
  ⟨etr h.ext hb, h.t.keep hb, h.a.keep hb, h.e.keep hb, h.sup, h.bj, h.h1, h.h2, h.h3, h.m1, h.m2, h.m3⟩
theorem addV_speed (c r : Int) (E : Es) (m : Int) (hc : 0 ≤ c ∧ c ≤ 500) (hr : 0 ≤ r ∧ r ≤ 100) : (addV c r E m).speed ≤ 2147483648 := by
  have h := @errV_bd c r (clampV m 0 1073741824) hc hr
  show clampV m 0 1073741824 + addU c r m ≤ _
  unfold addU
  have : clampV m 0 1073741824 ≤ 1073741824 := by unfold clampV; omega
  omega
end Go.Proofs.Ythkknagicdanfaa
