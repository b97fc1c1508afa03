/- Chapter 46: CabTrips. -/
import Derived.Test.YtbgmknkmfhpgeaaDoorWCabM
import Derived.Test.YtbgmknkmfhpgeaaDoorWCabP
set_option linter.unusedVariables false
set_option linter.unusedSimpArgs false
set_option maxRecDepth 100000
namespace Go.Proofs.YtbgmknkmfhpgeaaDoor
open Go.ChangeShapes Go.WideShapes Go.ChangeAt Go.RowKit
open Sg
theorem and1023 (m : Int) : 0 ≤ bits .and .i64 m 1023 ∧ bits .and .i64 m 1023 ≤ 1023 := by
  have h : (BitVec.ofInt 64 m &&& BitVec.ofInt 64 1023).toNat ≤ 1023 := by rw [BitVec.toNat_and]; exact Nat.le_trans Nat.and_le_right (by decide)
  have e : bits .and .i64 m 1023 = IntKind.i64.wrap (((BitVec.ofInt 64 m &&& BitVec.ofInt 64 1023).toNat : Nat) : Int) := rfl
  rw [e, IntWalk.i64_in _ (by omega)]
  omega
theorem ev_six (c : Cb) (h : c.mode = 6) (j : Nat) (h1 : 1 ≤ j) (h7 : j ≤ 7) : (((j : Int) = 3 ∧ c.E.speed = 0) ∧ evE c j = 0 ∧ (evC c j).mode = 7) ∨ (¬ ((j : Int) = 3 ∧ c.E.speed = 0) ∧ evE c j ≠ 0 ∧ (evC c j).mode = 6) := by
  have kj : j = 1 ∨ j = 2 ∨ j = 3 ∨ j = 4 ∨ j = 5 ∨ j = 6 ∨ j = 7 := by omega
  by_cases hs : c.E.speed = 0
  · rcases kj with rfl | rfl | rfl | rfl | rfl | rfl | rfl <;> simp [evC, evE, nxV, h, hs]
  · rcases kj with rfl | rfl | rfl | rfl | rfl | rfl | rfl <;> simp [evC, evE, nxV, h, hs]
set_option maxHeartbeats 64000000 in
theorem law_trips (c : Cb) (A L : Option Addr) (ca cl : Nat) (m : Ms) (B D : Option Addr) (cb cd : Nat) (M : Int) (Ar : Option Addr) (rs : List Rea) (cr : Nat) (wh : Bool) (now : Int) (w : World) (ht : Tabs w) (hs : c.T.name.size ≤ maxLen) (hkm : c.k.length ≤ maxLen) (hr : Rd w A 4 Sgc c.p) (hr2 : Rd w L 2 Lkc c.k)
    (hrm : Rd w B 4 Sgc m.p) (hrk : Rd w D 2 Lkc m.k) (hmp : m.p.length ≤ maxLen) (hmk : m.k.length ≤ maxLen) (hcd : m.k.length ≤ cd) (hrs : Rd w Ar 2 Rec rs) (it : I64 m.time) (inw : I64 now) :
    Calls Tryd.prog 9 #[.agg #[.int .i64 c.T.id, .string c.T.name, .int .i64 c.T.len, .int .i64 c.T.speed, .int .i64 c.T.accel, .int .i64 c.T.service, .int .i64 c.T.emergency, .int .i64 c.T.delay, .int .i64 c.T.cons, .int .i64 c.T.rate, .int .i64 c.mode, .int .i64 c.brake, .int .i64 c.next, .int .i64 c.E.min, .int .i64 c.E.max, .int .i64 c.E.speed, .int .i64 c.seq, .int .i64 c.en, .slice A c.p.length ca, .slice L c.k.length cl, .int .i64 c.peer, .int .i64 c.out, .int .i64 c.inn, .int .i64 c.heard, .bool c.known, .int .i64 c.since], .agg #[.int .i64 m.kind, .int .i64 m.frm, .int .i64 m.to_, .int .i64 m.seq, .int .i64 m.time, .int .i64 m.aseq, .int .i64 m.aen, .slice B m.p.length cb, .slice D m.k.length cd, .int .i64 m.rmin, .int .i64 m.rspeed, .int .i64 m.rmode, .int .i64 m.racc, .bool m.rwhole], .agg #[.int .i64 M, .slice Ar rs.length cr, .bool wh, .int .i64 now]] w fun e w' => e = .returned (.bool true) ∧ Below w.heap.size w w' := by
  have HT := Lib.hid ht
  obtain ⟨w1, hw⟩ : ∃ w1, w1 = (((w.alloc (.cells #[.int .i64 c.T.id, .string c.T.name, .int .i64 c.T.len, .int .i64 c.T.speed, .int .i64 c.T.accel, .int .i64 c.T.service, .int .i64 c.T.emergency, .int .i64 c.T.delay, .int .i64 c.T.cons, .int .i64 c.T.rate, .int .i64 c.mode, .int .i64 c.brake, .int .i64 c.next, .int .i64 c.E.min, .int .i64 c.E.max, .int .i64 c.E.speed, .int .i64 c.seq, .int .i64 c.en, .slice A c.p.length ca, .slice L c.k.length cl, .int .i64 c.peer, .int .i64 c.out, .int .i64 c.inn, .int .i64 c.heard, .bool c.known, .int .i64 c.since] 35)).alloc (.cells #[.int .i64 m.kind, .int .i64 m.frm, .int .i64 m.to_, .int .i64 m.seq, .int .i64 m.time, .int .i64 m.aseq, .int .i64 m.aen, .slice B m.p.length cb, .slice D m.k.length cd, .int .i64 m.rmin, .int .i64 m.rspeed, .int .i64 m.rmode, .int .i64 m.racc, .bool m.rwhole] 39)).alloc (.cells #[.int .i64 M, .slice Ar rs.length cr, .bool wh, .int .i64 now] 62)) := ⟨_, rfl⟩
  have HE0 : Hid (Ext w w1) := by rw [hw]; exact eal (eal (eal (Ext.refl w) _) _) _
  have HB : Hid (Own w1 (w.heap.size) [.int .i64 c.T.id, .string c.T.name, .int .i64 c.T.len, .int .i64 c.T.speed, .int .i64 c.T.accel, .int .i64 c.T.service, .int .i64 c.T.emergency, .int .i64 c.T.delay, .int .i64 c.T.cons, .int .i64 c.T.rate, .int .i64 c.mode, .int .i64 c.brake, .int .i64 c.next, .int .i64 c.E.min, .int .i64 c.E.max, .int .i64 c.E.speed, .int .i64 c.seq, .int .i64 c.en, .slice A c.p.length ca, .slice L c.k.length cl, .int .i64 c.peer, .int .i64 c.out, .int .i64 c.inn, .int .i64 c.heard, .bool c.known, .int .i64 c.since]) := by rw [hw]; exact ((Own.new (w := w) (cs := #[.int .i64 c.T.id, .string c.T.name, .int .i64 c.T.len, .int .i64 c.T.speed, .int .i64 c.T.accel, .int .i64 c.T.service, .int .i64 c.T.emergency, .int .i64 c.T.delay, .int .i64 c.T.cons, .int .i64 c.T.rate, .int .i64 c.mode, .int .i64 c.brake, .int .i64 c.next, .int .i64 c.E.min, .int .i64 c.E.max, .int .i64 c.E.speed, .int .i64 c.seq, .int .i64 c.en, .slice A c.p.length ca, .slice L c.k.length cl, .int .i64 c.peer, .int .i64 c.out, .int .i64 c.inn, .int .i64 c.heard, .bool c.known, .int .i64 c.since]) (t := 35) (by simp)).alloc _).alloc _
  have HM : Hid (Own w1 (w.heap.size + 1) [.int .i64 m.kind, .int .i64 m.frm, .int .i64 m.to_, .int .i64 m.seq, .int .i64 m.time, .int .i64 m.aseq, .int .i64 m.aen, .slice B m.p.length cb, .slice D m.k.length cd, .int .i64 m.rmin, .int .i64 m.rspeed, .int .i64 m.rmode, .int .i64 m.racc, .bool m.rwhole]) := by rw [hw]; exact (Own.new (w := (w.alloc (.cells #[.int .i64 c.T.id, .string c.T.name, .int .i64 c.T.len, .int .i64 c.T.speed, .int .i64 c.T.accel, .int .i64 c.T.service, .int .i64 c.T.emergency, .int .i64 c.T.delay, .int .i64 c.T.cons, .int .i64 c.T.rate, .int .i64 c.mode, .int .i64 c.brake, .int .i64 c.next, .int .i64 c.E.min, .int .i64 c.E.max, .int .i64 c.E.speed, .int .i64 c.seq, .int .i64 c.en, .slice A c.p.length ca, .slice L c.k.length cl, .int .i64 c.peer, .int .i64 c.out, .int .i64 c.inn, .int .i64 c.heard, .bool c.known, .int .i64 c.since] 35))) (cs := #[.int .i64 m.kind, .int .i64 m.frm, .int .i64 m.to_, .int .i64 m.seq, .int .i64 m.time, .int .i64 m.aseq, .int .i64 m.aen, .slice B m.p.length cb, .slice D m.k.length cd, .int .i64 m.rmin, .int .i64 m.rspeed, .int .i64 m.rmode, .int .i64 m.racc, .bool m.rwhole]) (t := 39) (by simp)).alloc _
  have HU : Hid (Own w1 (w.heap.size + 1 + 1) [.int .i64 M, .slice Ar rs.length cr, .bool wh, .int .i64 now]) := by rw [hw]; exact Own.new (w := ((w.alloc (.cells #[.int .i64 c.T.id, .string c.T.name, .int .i64 c.T.len, .int .i64 c.T.speed, .int .i64 c.T.accel, .int .i64 c.T.service, .int .i64 c.T.emergency, .int .i64 c.T.delay, .int .i64 c.T.cons, .int .i64 c.T.rate, .int .i64 c.mode, .int .i64 c.brake, .int .i64 c.next, .int .i64 c.E.min, .int .i64 c.E.max, .int .i64 c.E.speed, .int .i64 c.seq, .int .i64 c.en, .slice A c.p.length ca, .slice L c.k.length cl, .int .i64 c.peer, .int .i64 c.out, .int .i64 c.inn, .int .i64 c.heard, .bool c.known, .int .i64 c.since] 35)).alloc (.cells #[.int .i64 m.kind, .int .i64 m.frm, .int .i64 m.to_, .int .i64 m.seq, .int .i64 m.time, .int .i64 m.aseq, .int .i64 m.aen, .slice B m.p.length cb, .slice D m.k.length cd, .int .i64 m.rmin, .int .i64 m.rspeed, .int .i64 m.rmode, .int .i64 m.racc, .bool m.rwhole] 39))) (cs := #[.int .i64 M, .slice Ar rs.length cr, .bool wh, .int .i64 now]) (t := 62) (by simp)
  have HFC : Hid (Calls Tryd.prog 10 #[.agg #[.int .i64 c.T.id, .string c.T.name, .int .i64 c.T.len, .int .i64 c.T.speed, .int .i64 c.T.accel, .int .i64 c.T.service, .int .i64 c.T.emergency, .int .i64 c.T.delay, .int .i64 c.T.cons, .int .i64 c.T.rate, .int .i64 c.mode, .int .i64 c.brake, .int .i64 c.next, .int .i64 c.E.min, .int .i64 c.E.max, .int .i64 c.E.speed, .int .i64 c.seq, .int .i64 c.en, .slice A c.p.length ca, .slice L c.k.length cl, .int .i64 c.peer, .int .i64 c.out, .int .i64 c.inn, .int .i64 c.heard, .bool c.known, .int .i64 c.since]] w1 fun e w' => RetP w1 (CbOk c ∧ c.p.length ≤ 300 ∧ c.k.length ≤ 60) e w') := few_any c A L ca cl w1 hs hkm (hr2.keep HE0.out)
  have HAL : Hid (∀ x, Tabs x → Calls Tryd.prog 11 #[] x fun e w' => e = .returned (.bool true) ∧ Below x.heap.size x w') := fun x hx => alive_any x hx
  have HD1 : Hid (∀ x, Ext w x → c.p.length ≤ 1000000 → c.k.length ≤ 1000000 → Calls Tryd.prog 15 #[.agg #[.int .i64 c.T.id, .string c.T.name, .int .i64 c.T.len, .int .i64 c.T.speed, .int .i64 c.T.accel, .int .i64 c.T.service, .int .i64 c.T.emergency, .int .i64 c.T.delay, .int .i64 c.T.cons, .int .i64 c.T.rate, .int .i64 1, .int .i64 c.brake, .int .i64 c.next, .int .i64 c.E.min, .int .i64 c.E.max, .int .i64 c.E.speed, .int .i64 c.seq, .int .i64 c.en, .slice A c.p.length ca, .slice L c.k.length cl, .int .i64 c.peer, .int .i64 c.out, .int .i64 c.inn, .int .i64 c.heard, .bool c.known, .int .i64 c.since], .int .i64 now] x fun e w' => ∃ A3 c3 L3 d3, e = .returned (.agg #[.int .i64 c.T.id, .string c.T.name, .int .i64 c.T.len, .int .i64 c.T.speed, .int .i64 c.T.accel, .int .i64 c.T.service, .int .i64 c.T.emergency, .int .i64 c.T.delay, .int .i64 c.T.cons, .int .i64 c.T.rate, .int .i64 1, .int .i64 2, .int .i64 c.next, .int .i64 c.E.min, .int .i64 c.E.max, .int .i64 c.E.speed, .int .i64 c.seq, .int .i64 c.en, .slice A3 c.p.length c3, .slice L3 c.k.length d3, .int .i64 c.peer, .int .i64 c.out, .int .i64 c.inn, .int .i64 c.heard, .bool c.known, .int .i64 c.since]) ∧ Below x.heap.size x w') := fun x hx hp hk => by
    refine (dec_def { c with mode := 1 } A L ca cl now x hp hk (hr.keep hx) (hr2.keep hx) rfl rfl rfl rfl).mono ?_
    rintro e w' ⟨A3, c3, L3, d3, rfl, _, _, h⟩
    exact ⟨A3, c3, L3, d3, rfl, h⟩
  have HM1 : Hid (∀ x, Ext w x → CbOk c → c.p.length ≤ 1000000 → c.k.length ≤ 1000000 → rs.length ≤ 1000000 → Calls Tryd.prog 27 #[.agg #[.int .i64 c.T.id, .string c.T.name, .int .i64 c.T.len, .int .i64 c.T.speed, .int .i64 c.T.accel, .int .i64 c.T.service, .int .i64 c.T.emergency, .int .i64 c.T.delay, .int .i64 c.T.cons, .int .i64 c.T.rate, .int .i64 1, .int .i64 c.brake, .int .i64 c.next, .int .i64 c.E.min, .int .i64 c.E.max, .int .i64 c.E.speed, .int .i64 c.seq, .int .i64 c.en, .slice A c.p.length ca, .slice L c.k.length cl, .int .i64 c.peer, .int .i64 c.out, .int .i64 c.inn, .int .i64 c.heard, .bool c.known, .int .i64 c.since], .int .i64 M, .slice Ar rs.length cr, .bool wh, .int .i64 now] x fun e w' => ∃ (d : Cb) (A3 : Option Addr) (c3 : Nat) (L3 : Option Addr) (d3 : Nat), e = .returned (.agg #[.int .i64 d.T.id, .string d.T.name, .int .i64 d.T.len, .int .i64 d.T.speed, .int .i64 d.T.accel, .int .i64 d.T.service, .int .i64 d.T.emergency, .int .i64 d.T.delay, .int .i64 d.T.cons, .int .i64 d.T.rate, .int .i64 d.mode, .int .i64 d.brake, .int .i64 d.next, .int .i64 d.E.min, .int .i64 d.E.max, .int .i64 d.E.speed, .int .i64 d.seq, .int .i64 d.en, .slice A3 d.p.length c3, .slice L3 d.k.length d3, .int .i64 d.peer, .int .i64 d.out, .int .i64 d.inn, .int .i64 d.heard, .bool d.known, .int .i64 d.since]) ∧ (d.mode != 1) = false ∧ Below x.heap.size x w') := fun x hx hok hp hk hl => by
    refine (measure_any { c with mode := 1 } A L Ar ca cl cr M now rs wh x hp hk hl (hr.keep hx) (hr2.keep hx) (hrs.keep hx) ⟨hok.tr, hok.min, hok.max, hok.spd, hok.en, hok.lk⟩).mono ?_
    rintro e w' ⟨d, hd, A3, c3, L3, d3, rfl, _, _, h⟩
    exact ⟨d, A3, c3, L3, d3, rfl, by rw [hd]; rfl, h⟩
  have HD6 : Hid (∀ x, Ext w x → c.p.length ≤ 1000000 → c.k.length ≤ 1000000 → Calls Tryd.prog 15 #[.agg #[.int .i64 c.T.id, .string c.T.name, .int .i64 c.T.len, .int .i64 c.T.speed, .int .i64 c.T.accel, .int .i64 c.T.service, .int .i64 c.T.emergency, .int .i64 c.T.delay, .int .i64 c.T.cons, .int .i64 c.T.rate, .int .i64 6, .int .i64 c.brake, .int .i64 c.next, .int .i64 c.E.min, .int .i64 c.E.max, .int .i64 c.E.speed, .int .i64 c.seq, .int .i64 c.en, .slice A c.p.length ca, .slice L c.k.length cl, .int .i64 c.peer, .int .i64 c.out, .int .i64 c.inn, .int .i64 c.heard, .bool c.known, .int .i64 c.since], .int .i64 now] x fun e w' => ∃ A3 c3 L3 d3, e = .returned (.agg #[.int .i64 c.T.id, .string c.T.name, .int .i64 c.T.len, .int .i64 c.T.speed, .int .i64 c.T.accel, .int .i64 c.T.service, .int .i64 c.T.emergency, .int .i64 c.T.delay, .int .i64 c.T.cons, .int .i64 c.T.rate, .int .i64 6, .int .i64 2, .int .i64 c.next, .int .i64 c.E.min, .int .i64 c.E.max, .int .i64 c.E.speed, .int .i64 c.seq, .int .i64 c.en, .slice A3 c.p.length c3, .slice L3 c.k.length d3, .int .i64 c.peer, .int .i64 c.out, .int .i64 c.inn, .int .i64 c.heard, .bool c.known, .int .i64 c.since]) ∧ Below x.heap.size x w') := fun x hx hp hk => by
    refine (dec_def { c with mode := 6 } A L ca cl now x hp hk (hr.keep hx) (hr2.keep hx) rfl rfl rfl rfl).mono ?_
    rintro e w' ⟨A3, c3, L3, d3, rfl, _, _, h⟩
    exact ⟨A3, c3, L3, d3, rfl, h⟩
  have HM6 : Hid (∀ x, Ext w x → CbOk c → c.p.length ≤ 1000000 → c.k.length ≤ 1000000 → rs.length ≤ 1000000 → Calls Tryd.prog 27 #[.agg #[.int .i64 c.T.id, .string c.T.name, .int .i64 c.T.len, .int .i64 c.T.speed, .int .i64 c.T.accel, .int .i64 c.T.service, .int .i64 c.T.emergency, .int .i64 c.T.delay, .int .i64 c.T.cons, .int .i64 c.T.rate, .int .i64 6, .int .i64 c.brake, .int .i64 c.next, .int .i64 c.E.min, .int .i64 c.E.max, .int .i64 c.E.speed, .int .i64 c.seq, .int .i64 c.en, .slice A c.p.length ca, .slice L c.k.length cl, .int .i64 c.peer, .int .i64 c.out, .int .i64 c.inn, .int .i64 c.heard, .bool c.known, .int .i64 c.since], .int .i64 M, .slice Ar rs.length cr, .bool wh, .int .i64 now] x fun e w' => ∃ (d : Cb) (A3 : Option Addr) (c3 : Nat) (L3 : Option Addr) (d3 : Nat), e = .returned (.agg #[.int .i64 d.T.id, .string d.T.name, .int .i64 d.T.len, .int .i64 d.T.speed, .int .i64 d.T.accel, .int .i64 d.T.service, .int .i64 d.T.emergency, .int .i64 d.T.delay, .int .i64 d.T.cons, .int .i64 d.T.rate, .int .i64 d.mode, .int .i64 d.brake, .int .i64 d.next, .int .i64 d.E.min, .int .i64 d.E.max, .int .i64 d.E.speed, .int .i64 d.seq, .int .i64 d.en, .slice A3 d.p.length c3, .slice L3 d.k.length d3, .int .i64 d.peer, .int .i64 d.out, .int .i64 d.inn, .int .i64 d.heard, .bool d.known, .int .i64 d.since]) ∧ (d.mode != 6) = false ∧ Below x.heap.size x w') := fun x hx hok hp hk hl => by
    refine (measure_any { c with mode := 6 } A L Ar ca cl cr M now rs wh x hp hk hl (hr.keep hx) (hr2.keep hx) (hrs.keep hx) ⟨hok.tr, hok.min, hok.max, hok.spd, hok.en, hok.lk⟩).mono ?_
    rintro e w' ⟨d, hd, A3, c3, L3, d3, rfl, _, _, h⟩
    exact ⟨d, A3, c3, L3, d3, rfl, by rw [hd]; rfl, h⟩
  have HD7 : Hid (∀ x, Ext w x → c.p.length ≤ 1000000 → c.k.length ≤ 1000000 → Calls Tryd.prog 15 #[.agg #[.int .i64 c.T.id, .string c.T.name, .int .i64 c.T.len, .int .i64 c.T.speed, .int .i64 c.T.accel, .int .i64 c.T.service, .int .i64 c.T.emergency, .int .i64 c.T.delay, .int .i64 c.T.cons, .int .i64 c.T.rate, .int .i64 7, .int .i64 c.brake, .int .i64 c.next, .int .i64 c.E.min, .int .i64 c.E.max, .int .i64 c.E.speed, .int .i64 c.seq, .int .i64 c.en, .slice A c.p.length ca, .slice L c.k.length cl, .int .i64 c.peer, .int .i64 c.out, .int .i64 c.inn, .int .i64 c.heard, .bool c.known, .int .i64 c.since], .int .i64 now] x fun e w' => ∃ A3 c3 L3 d3, e = .returned (.agg #[.int .i64 c.T.id, .string c.T.name, .int .i64 c.T.len, .int .i64 c.T.speed, .int .i64 c.T.accel, .int .i64 c.T.service, .int .i64 c.T.emergency, .int .i64 c.T.delay, .int .i64 c.T.cons, .int .i64 c.T.rate, .int .i64 7, .int .i64 2, .int .i64 c.next, .int .i64 c.E.min, .int .i64 c.E.max, .int .i64 c.E.speed, .int .i64 c.seq, .int .i64 c.en, .slice A3 c.p.length c3, .slice L3 c.k.length d3, .int .i64 c.peer, .int .i64 c.out, .int .i64 c.inn, .int .i64 c.heard, .bool c.known, .int .i64 c.since]) ∧ Below x.heap.size x w') := fun x hx hp hk => by
    refine (dec_def { c with mode := 7 } A L ca cl now x hp hk (hr.keep hx) (hr2.keep hx) rfl rfl rfl rfl).mono ?_
    rintro e w' ⟨A3, c3, L3, d3, rfl, _, _, h⟩
    exact ⟨A3, c3, L3, d3, rfl, h⟩
  have HM7 : Hid (∀ x, Ext w x → CbOk c → c.p.length ≤ 1000000 → c.k.length ≤ 1000000 → rs.length ≤ 1000000 → Calls Tryd.prog 27 #[.agg #[.int .i64 c.T.id, .string c.T.name, .int .i64 c.T.len, .int .i64 c.T.speed, .int .i64 c.T.accel, .int .i64 c.T.service, .int .i64 c.T.emergency, .int .i64 c.T.delay, .int .i64 c.T.cons, .int .i64 c.T.rate, .int .i64 7, .int .i64 c.brake, .int .i64 c.next, .int .i64 c.E.min, .int .i64 c.E.max, .int .i64 c.E.speed, .int .i64 c.seq, .int .i64 c.en, .slice A c.p.length ca, .slice L c.k.length cl, .int .i64 c.peer, .int .i64 c.out, .int .i64 c.inn, .int .i64 c.heard, .bool c.known, .int .i64 c.since], .int .i64 M, .slice Ar rs.length cr, .bool wh, .int .i64 now] x fun e w' => ∃ (d : Cb) (A3 : Option Addr) (c3 : Nat) (L3 : Option Addr) (d3 : Nat), e = .returned (.agg #[.int .i64 d.T.id, .string d.T.name, .int .i64 d.T.len, .int .i64 d.T.speed, .int .i64 d.T.accel, .int .i64 d.T.service, .int .i64 d.T.emergency, .int .i64 d.T.delay, .int .i64 d.T.cons, .int .i64 d.T.rate, .int .i64 d.mode, .int .i64 d.brake, .int .i64 d.next, .int .i64 d.E.min, .int .i64 d.E.max, .int .i64 d.E.speed, .int .i64 d.seq, .int .i64 d.en, .slice A3 d.p.length c3, .slice L3 d.k.length d3, .int .i64 d.peer, .int .i64 d.out, .int .i64 d.inn, .int .i64 d.heard, .bool d.known, .int .i64 d.since]) ∧ (d.mode != 7) = false ∧ Below x.heap.size x w') := fun x hx hok hp hk hl => by
    refine (measure_any { c with mode := 7 } A L Ar ca cl cr M now rs wh x hp hk hl (hr.keep hx) (hr2.keep hx) (hrs.keep hx) ⟨hok.tr, hok.min, hok.max, hok.spd, hok.en, hok.lk⟩).mono ?_
    rintro e w' ⟨d, hd, A3, c3, L3, d3, rfl, _, _, h⟩
    exact ⟨d, A3, c3, L3, d3, rfl, by rw [hd]; rfl, h⟩
  have HRC : Hid (∀ x, Ext w x → c.p.length ≤ 1000000 → c.k.length ≤ 1000000 → Calls Tryd.prog 12 #[.agg #[.int .i64 c.T.id, .string c.T.name, .int .i64 c.T.len, .int .i64 c.T.speed, .int .i64 c.T.accel, .int .i64 c.T.service, .int .i64 c.T.emergency, .int .i64 c.T.delay, .int .i64 c.T.cons, .int .i64 c.T.rate, .int .i64 6, .int .i64 c.brake, .int .i64 c.next, .int .i64 c.E.min, .int .i64 c.E.max, .int .i64 c.E.speed, .int .i64 c.seq, .int .i64 c.en, .slice A c.p.length ca, .slice L c.k.length cl, .int .i64 c.peer, .int .i64 c.out, .int .i64 c.inn, .int .i64 c.heard, .bool c.known, .int .i64 c.since], .agg #[.int .i64 m.kind, .int .i64 m.frm, .int .i64 m.to_, .int .i64 m.seq, .int .i64 m.time, .int .i64 m.aseq, .int .i64 m.aen, .slice B m.p.length cb, .slice D m.k.length cd, .int .i64 m.rmin, .int .i64 m.rspeed, .int .i64 m.rmode, .int .i64 m.racc, .bool m.rwhole], .int .i64 now] x fun e w' => ∃ (d : Cb) (n : Int) (A3 : Option Addr) (c3 : Nat) (L3 : Option Addr) (d3 : Nat), e = .returned (.tuple #[.agg #[.int .i64 d.T.id, .string d.T.name, .int .i64 d.T.len, .int .i64 d.T.speed, .int .i64 d.T.accel, .int .i64 d.T.service, .int .i64 d.T.emergency, .int .i64 d.T.delay, .int .i64 d.T.cons, .int .i64 d.T.rate, .int .i64 d.mode, .int .i64 d.brake, .int .i64 d.next, .int .i64 d.E.min, .int .i64 d.E.max, .int .i64 d.E.speed, .int .i64 d.seq, .int .i64 d.en, .slice A3 d.p.length c3, .slice L3 d.k.length d3, .int .i64 d.peer, .int .i64 d.out, .int .i64 d.inn, .int .i64 d.heard, .bool d.known, .int .i64 d.since], .int .i64 n]) ∧ (d.mode != 6) = false ∧ Below x.heap.size x w') := fun x hx hp hk => by
    refine (rec_six { c with mode := 6 } m A L B D ca cl cb cd now x hp hk (hr.keep hx) (hr2.keep hx) it inw (ht.keep hx) rfl hmp hmk hcd (hrm.keep hx) (hrk.keep hx)).mono ?_
    rintro e w' ⟨d, n, hd, A3, c3, L3, d3, rfl, _, _, h⟩
    exact ⟨d, n, A3, c3, L3, d3, rfl, by rw [hd]; rfl, h⟩
  have HEV : Hid (∀ (j : Nat), 1 ≤ j → j ≤ 7 → ∃ (d : Cb) (n : Int), ((((j : Int) == 3) = true ∧ (c.E.speed == 0) = true ∧ (n == 0) = true ∧ (d.mode != 7) = false) ∨ (((j : Int) == 3) = false ∧ (n == 0) = false ∧ (d.mode != 6) = false) ∨ (((j : Int) == 3) = true ∧ (c.E.speed == 0) = false ∧ (n == 0) = false ∧ (d.mode != 6) = false)) ∧
      ∀ x, Ext w x → c.p.length ≤ 1000000 → c.k.length ≤ 1000000 → Calls Tryd.prog 20 #[.agg #[.int .i64 c.T.id, .string c.T.name, .int .i64 c.T.len, .int .i64 c.T.speed, .int .i64 c.T.accel, .int .i64 c.T.service, .int .i64 c.T.emergency, .int .i64 c.T.delay, .int .i64 c.T.cons, .int .i64 c.T.rate, .int .i64 6, .int .i64 c.brake, .int .i64 c.next, .int .i64 c.E.min, .int .i64 c.E.max, .int .i64 c.E.speed, .int .i64 c.seq, .int .i64 c.en, .slice A c.p.length ca, .slice L c.k.length cl, .int .i64 c.peer, .int .i64 c.out, .int .i64 c.inn, .int .i64 c.heard, .bool c.known, .int .i64 c.since], .int .i64 (j : Nat)] x fun e w' => ∃ (A3 : Option Addr) (c3 : Nat) (L3 : Option Addr) (d3 : Nat), e = .returned (.tuple #[.agg #[.int .i64 d.T.id, .string d.T.name, .int .i64 d.T.len, .int .i64 d.T.speed, .int .i64 d.T.accel, .int .i64 d.T.service, .int .i64 d.T.emergency, .int .i64 d.T.delay, .int .i64 d.T.cons, .int .i64 d.T.rate, .int .i64 d.mode, .int .i64 d.brake, .int .i64 d.next, .int .i64 d.E.min, .int .i64 d.E.max, .int .i64 d.E.speed, .int .i64 d.seq, .int .i64 d.en, .slice A3 d.p.length c3, .slice L3 d.k.length d3, .int .i64 d.peer, .int .i64 d.out, .int .i64 d.inn, .int .i64 d.heard, .bool d.known, .int .i64 d.since], .int .i64 n]) ∧ Below x.heap.size x w') := fun j h1 h7 => by
    refine ⟨evC { c with mode := 6 } j, evE { c with mode := 6 } j, ?_, fun x hx hp hk => ?_⟩
    · rcases ev_six { c with mode := 6 } rfl j h1 h7 with ⟨⟨a, b⟩, e1, e2⟩ | ⟨a, e1, e2⟩
      · exact .inl ⟨by simpa using a, by simpa using b, by simpa using e1, by rw [e2]; rfl⟩
      · by_cases h3 : (j : Int) = 3
        · exact .inr (.inr ⟨by simpa using h3, by simpa using fun hb => a ⟨h3, hb⟩, by simpa using e1, by rw [e2]; rfl⟩)
        · exact .inr (.inl ⟨by simpa using h3, by simpa using e1, by rw [e2]; rfl⟩)
    · refine (event_any { c with mode := 6 } A L ca cl j x hp hk (hr.keep hx) (hr2.keep hx) (ht.keep hx)).mono ?_
      rintro e w' ⟨A3, c3, L3, d3, rfl, _, _, h⟩
      exact ⟨A3, c3, L3, d3, rfl, h⟩
  clear hr hr2 ht hs hkm hrm hrk hmp hmk hcd hrs it inw
  go_enter Tryd.func9, Tryd.ntmps9
  go_upto_region 1 with (fail)
  rw [← hw]
  clear hw
  go_wp2_with (first | (refine wp_ldN 35 [.int .i64 c.T.id, .string c.T.name, .int .i64 c.T.len, .int .i64 c.T.speed, .int .i64 c.T.accel, .int .i64 c.T.service, .int .i64 c.T.emergency, .int .i64 c.T.delay, .int .i64 c.T.cons, .int .i64 c.T.rate, .int .i64 c.mode, .int .i64 c.brake, .int .i64 c.next, .int .i64 c.E.min, .int .i64 c.E.max, .int .i64 c.E.speed, .int .i64 c.seq, .int .i64 c.en, .slice A c.p.length ca, .slice L c.k.length cl, .int .i64 c.peer, .int .i64 c.out, .int .i64 c.inn, .int .i64 c.heard, .bool c.known, .int .i64 c.since] rfl rfl rfl (HB.out).cells Tryd.underlying35 szCab rfl ?_))
  refine HFC.out.mono ?_
  rintro e w2 ⟨b, rfl, hP, hb⟩
  have HQ := Lib.hid hP
  clear HFC hP
  have HOBv1 := Lib.hid (HB.out.keep hb)
  have HOMv1 := Lib.hid (HM.out.keep hb)
  have HOUv1 := Lib.hid (HU.out.keep hb)
  have HXv1 := Lib.hid (etr HE0.out hb)
  clear hb
  have u1 := HOUv1.out.cells.2 1 _ rfl
  have uz := HOUv1.out.cells.1
  have m7 := HOMv1.out.cells.2 7 _ rfl
  have m8 := HOMv1.out.cells.2 8 _ rfl
  have mz := HOMv1.out.cells.1
  cases b
  · go_wp2_with fail
    refine (HAL.out _ (HT.out.keep HXv1.out)).mono ?_
    rintro e w3 ⟨rfl, hb⟩
    go_wp2
    go_ret
    exact ⟨rfl, etr HXv1.out hb⟩
  · cases q1 : decide ((60 : Int) < (rs.length : Int))
    case true =>
      go_wp2_with fail
      refine (HAL.out _ (HT.out.keep HXv1.out)).mono ?_
      rintro e w3 ⟨rfl, hb⟩
      go_wp2
      go_ret
      exact ⟨rfl, etr HXv1.out hb⟩
    case false =>
      cases q2 : decide ((300 : Int) < (m.p.length : Int))
      case true =>
        go_wp2_with fail
        refine (HAL.out _ (HT.out.keep HXv1.out)).mono ?_
        rintro e w3 ⟨rfl, hb⟩
        go_wp2
        go_ret
        exact ⟨rfl, etr HXv1.out hb⟩
      case false =>
        cases q3 : decide ((60 : Int) < (m.k.length : Int))
        case true =>
          go_wp2_with fail
          refine (HAL.out _ (HT.out.keep HXv1.out)).mono ?_
          rintro e w3 ⟨rfl, hb⟩
          go_wp2
          go_ret
          exact ⟨rfl, etr HXv1.out hb⟩
        case false =>
          have hpl : c.p.length ≤ 1000000 := by have := (HQ.out rfl).2.1; omega
          have hkl : c.k.length ≤ 1000000 := by have := (HQ.out rfl).2.2; omega
          have hrl : rs.length ≤ 1000000 := by have := of_decide_eq_false q1; omega
          have HOK := Lib.hid (HQ.out rfl).1
          have HPL := Lib.hid hpl
          have HKL := Lib.hid hkl
          have HRL := Lib.hid hrl
          clear hpl hkl hrl HQ
          have hand := and1023 now
          obtain ⟨a, ha⟩ : ∃ a, a = bits .and .i64 now 1023 := ⟨_, rfl⟩
          have hmod : a.tmod 3 = 0 ∨ a.tmod 3 = 1 ∨ a.tmod 3 = 2 := by
            rw [← ha] at hand
            rw [Int.tmod_eq_emod_of_nonneg hand.1]; omega
          rw [ha] at hmod
          clear ha hand a
          have u3 := HOUv1.out.cells.2 3 _ rfl
          have b10 := HOBv1.out.cells.2 10 _ rfl
          have bz := HOBv1.out.cells.1
          have bf := HOBv1.out.2.2
          rcases hmod with hmod | hmod | hmod
          · go_upto_region 4 with (fail)
            clear u1 uz m7 m8 mz u3 b10 bz bf hmod
            obtain ⟨w3, hw3⟩ : ∃ x, x = (w2.setCell ⟨w.heap.size, 10, none⟩ (.int .i64 1)) := ⟨_, rfl⟩
            obtain ⟨Ow3, Nw3⟩ := setN_at HOBv1.out 10 [.int .i64 1] (ws := [.int .i64 c.T.id, .string c.T.name, .int .i64 c.T.len, .int .i64 c.T.speed, .int .i64 c.T.accel, .int .i64 c.T.service, .int .i64 c.T.emergency, .int .i64 c.T.delay, .int .i64 c.T.cons, .int .i64 c.T.rate, .int .i64 1, .int .i64 c.brake, .int .i64 c.next, .int .i64 c.E.min, .int .i64 c.E.max, .int .i64 c.E.speed, .int .i64 c.seq, .int .i64 c.en, .slice A c.p.length ca, .slice L c.k.length cl, .int .i64 c.peer, .int .i64 c.out, .int .i64 c.inn, .int .i64 c.heard, .bool c.known, .int .i64 c.since]) rfl (by simp) hw3
            rw [← hw3]
            clear hw3
            have HOBv2 := Lib.hid (Ow3)
            have HOMv2 := Lib.hid (HOMv1.out.only Nw3 (by omega))
            have HOUv2 := Lib.hid (HOUv1.out.only Nw3 (by omega))
            have HXv2 := Lib.hid (eonly HXv1.out Nw3 (by omega))
            clear Ow3 Nw3
            obtain ⟨w4, hw4⟩ : ∃ x, x = w3.alloc (.cells #[.int .i64 1, .int .i64 6, .int .i64 7] 3) := ⟨_, rfl⟩
            have g3 : Ext w3 w4 := by rw [hw4]; exact eal (Ext.refl _) _
            rw [← hw4]
            clear hw4
            have HOBv3 := Lib.hid (HOBv2.out.keep g3)
            have HOMv3 := Lib.hid (HOMv2.out.keep g3)
            have HOUv3 := Lib.hid (HOUv2.out.keep g3)
            have HXv3 := Lib.hid (etr HXv2.out g3)
            clear g3
            have u0 := HOUv3.out.cells.2 0 _ rfl
            have u1 := HOUv3.out.cells.2 1 _ rfl
            have u2 := HOUv3.out.cells.2 2 _ rfl
            have u3 := HOUv3.out.cells.2 3 _ rfl
            have uz := HOUv3.out.cells.1
            have b10 := HOBv3.out.cells.2 10 _ rfl
            have bz := HOBv3.out.cells.1
            refine wp_region_mono [0, 1, 2] 19 (by kernel_rfl) (by kernel_rfl) (fun _ _ d _ _ h => by cases d <;> exact h) (by kernel_rfl) (by kernel_rfl) ?_
            refine wE_ldN 35 [.int .i64 c.T.id, .string c.T.name, .int .i64 c.T.len, .int .i64 c.T.speed, .int .i64 c.T.accel, .int .i64 c.T.service, .int .i64 c.T.emergency, .int .i64 c.T.delay, .int .i64 c.T.cons, .int .i64 c.T.rate, .int .i64 1, .int .i64 c.brake, .int .i64 c.next, .int .i64 c.E.min, .int .i64 c.E.max, .int .i64 c.E.speed, .int .i64 c.seq, .int .i64 c.en, .slice A c.p.length ca, .slice L c.k.length cl, .int .i64 c.peer, .int .i64 c.out, .int .i64 c.inn, .int .i64 c.heard, .bool c.known, .int .i64 c.since] rfl rfl rfl rfl (HOBv3.out).cells Tryd.underlying35 szCab rfl ?_
            go_simp
            iterate 2 (refine wpE_step rfl (fun K hK => ?_); go_simp; (refine hK _ ?_; clear hK K))
            refine wpE_nil ?_
            intro y
            have hy := y.is
            clear u0 u1 u2 u3 uz b10 bz
            have HOBv4 := Lib.hid (HOBv3.out.keep hy)
            have HOMv4 := Lib.hid (HOMv3.out.keep hy)
            have HOUv4 := Lib.hid (HOUv3.out.keep hy)
            have HXv4 := Lib.hid (etr HXv3.out hy)
            clear hy
            refine wpAnyR_ready (rs := [3]) (by kernel_rfl) (by simp) (AllR.cons rfl (fun K hK => ?_) AllR.nil)
            go_simp
            go_wp2_with fail
            refine (HD1.out _ HXv4.out HPL.out HKL.out).mono ?_
            rintro e w5 ⟨A3, c3, L3, d3, rfl, hb⟩
            refine hK _ _ hb (fun y2 => ?_)
            clear hK K
            have g5 := etr hb y2.is
            clear hb
            have HOBv5 := Lib.hid (HOBv4.out.keep g5)
            have HOMv5 := Lib.hid (HOMv4.out.keep g5)
            have HOUv5 := Lib.hid (HOUv4.out.keep g5)
            have HXv5 := Lib.hid (etr HXv4.out g5)
            clear g5
            have u0 := HOUv5.out.cells.2 0 _ rfl
            have u1 := HOUv5.out.cells.2 1 _ rfl
            have u2 := HOUv5.out.cells.2 2 _ rfl
            have u3 := HOUv5.out.cells.2 3 _ rfl
            have uz := HOUv5.out.cells.1
            have b10 := HOBv5.out.cells.2 10 _ rfl
            have bz := HOBv5.out.cells.1
            have hf1 : ∀ x : World, (Instr.field 35 (.agg #[.int .i64 c.T.id, .string c.T.name, .int .i64 c.T.len, .int .i64 c.T.speed, .int .i64 c.T.accel, .int .i64 c.T.service, .int .i64 c.T.emergency, .int .i64 c.T.delay, .int .i64 c.T.cons, .int .i64 c.T.rate, .int .i64 1, .int .i64 2, .int .i64 c.next, .int .i64 c.E.min, .int .i64 c.E.max, .int .i64 c.E.speed, .int .i64 c.seq, .int .i64 c.en, .slice A3 c.p.length c3, .slice L3 c.k.length d3, .int .i64 c.peer, .int .i64 c.out, .int .i64 c.inn, .int .i64 c.heard, .bool c.known, .int .i64 c.since]) 2).run Tryd.prog x = .ok (.int .i64 2) x := fun _ => by kernel_rfl
            refine wpAnyR_more [4, 5, 6, 7, 8, 9, 10, 11, 12, 13, 14, 15, 18, 19] (fuel := 4) (by kernel_rfl) (fun _ _ d _ _ h => by cases d <;> exact h) (by kernel_rfl) rfl ?_
            iterate 3 (refine wpE_step rfl (fun K hK => ?_); go_simp; (refine hK _ ?_; clear hK K))
            refine wE_ldN 35 [.int .i64 c.T.id, .string c.T.name, .int .i64 c.T.len, .int .i64 c.T.speed, .int .i64 c.T.accel, .int .i64 c.T.service, .int .i64 c.T.emergency, .int .i64 c.T.delay, .int .i64 c.T.cons, .int .i64 c.T.rate, .int .i64 1, .int .i64 c.brake, .int .i64 c.next, .int .i64 c.E.min, .int .i64 c.E.max, .int .i64 c.E.speed, .int .i64 c.seq, .int .i64 c.en, .slice A c.p.length ca, .slice L c.k.length cl, .int .i64 c.peer, .int .i64 c.out, .int .i64 c.inn, .int .i64 c.heard, .bool c.known, .int .i64 c.since] rfl rfl rfl rfl (HOBv5.out).cells Tryd.underlying35 szCab rfl ?_
            go_simp
            iterate 10 (refine wpE_step rfl (fun K hK => ?_); go_simp; (refine hK _ ?_; clear hK K))
            refine wpE_nil ?_
            intro y3
            have hy := y3.is
            clear u0 u1 u2 u3 uz b10 bz hf1
            have HOBv6 := Lib.hid (HOBv5.out.keep hy)
            have HOMv6 := Lib.hid (HOMv5.out.keep hy)
            have HOUv6 := Lib.hid (HOUv5.out.keep hy)
            have HXv6 := Lib.hid (etr HXv5.out hy)
            clear hy
            refine wpAnyR_ready (rs := [16]) (by kernel_rfl) (by simp) (AllR.cons rfl (fun K hK => ?_) AllR.nil)
            go_simp
            go_wp2_with fail
            refine (HM1.out _ HXv6.out HOK.out HPL.out HKL.out HRL.out).mono ?_
            rintro e w6 ⟨d, A3, c3, L3, d3, rfl, qd, hb⟩
            refine hK _ _ hb (fun y4 => ?_)
            clear hK K
            have g6 := etr hb y4.is
            clear hb
            have HOBv7 := Lib.hid (HOBv6.out.keep g6)
            have HOMv7 := Lib.hid (HOMv6.out.keep g6)
            have HOUv7 := Lib.hid (HOUv6.out.keep g6)
            have HXv7 := Lib.hid (etr HXv6.out g6)
            clear g6
            have hf2 : ∀ x : World, (Instr.field 35 (.agg #[.int .i64 d.T.id, .string d.T.name, .int .i64 d.T.len, .int .i64 d.T.speed, .int .i64 d.T.accel, .int .i64 d.T.service, .int .i64 d.T.emergency, .int .i64 d.T.delay, .int .i64 d.T.cons, .int .i64 d.T.rate, .int .i64 d.mode, .int .i64 d.brake, .int .i64 d.next, .int .i64 d.E.min, .int .i64 d.E.max, .int .i64 d.E.speed, .int .i64 d.seq, .int .i64 d.en, .slice A3 d.p.length c3, .slice L3 d.k.length d3, .int .i64 d.peer, .int .i64 d.out, .int .i64 d.inn, .int .i64 d.heard, .bool d.known, .int .i64 d.since]) 1).run Tryd.prog x = .ok (.int .i64 d.mode) x := fun _ => by kernel_rfl
            refine wpAnyR_more [17, 20, 21] (fuel := 0) (by kernel_rfl) (fun _ _ d _ _ h => by cases d <;> exact h) (by kernel_rfl) rfl ?_
            iterate 3 (refine wpE_step rfl (fun K hK => ?_); go_simp; (refine hK _ ?_; clear hK K))
            refine wpE_nil ?_
            intro y5
            have hy := y5.is
            have HOBv8 := Lib.hid (HOBv7.out.keep hy)
            have HOMv8 := Lib.hid (HOMv7.out.keep hy)
            have HOUv8 := Lib.hid (HOUv7.out.keep hy)
            have HXv8 := Lib.hid (etr HXv7.out hy)
            clear hy hf2 qd
            refine wpAnyR_done (by kernel_rfl) ?_ _
            have u0 := HOUv8.out.cells.2 0 _ rfl
            have u1 := HOUv8.out.cells.2 1 _ rfl
            have u2 := HOUv8.out.cells.2 2 _ rfl
            have u3 := HOUv8.out.cells.2 3 _ rfl
            have uz := HOUv8.out.cells.1
            have b10 := HOBv8.out.cells.2 10 _ rfl
            have bz := HOBv8.out.cells.1
            have bf := HOBv8.out.2.2
            go_upto_region 7 with (fail)
            obtain ⟨w7, hw7⟩ : ∃ x, x = (y5.val.setCell ⟨w.heap.size, 10, none⟩ (.int .i64 6)) := ⟨_, rfl⟩
            obtain ⟨Ow7, Nw7⟩ := setN_at HOBv8.out 10 [.int .i64 6] (ws := [.int .i64 c.T.id, .string c.T.name, .int .i64 c.T.len, .int .i64 c.T.speed, .int .i64 c.T.accel, .int .i64 c.T.service, .int .i64 c.T.emergency, .int .i64 c.T.delay, .int .i64 c.T.cons, .int .i64 c.T.rate, .int .i64 6, .int .i64 c.brake, .int .i64 c.next, .int .i64 c.E.min, .int .i64 c.E.max, .int .i64 c.E.speed, .int .i64 c.seq, .int .i64 c.en, .slice A c.p.length ca, .slice L c.k.length cl, .int .i64 c.peer, .int .i64 c.out, .int .i64 c.inn, .int .i64 c.heard, .bool c.known, .int .i64 c.since]) rfl (by simp) hw7
            rw [← hw7]
            clear hw7
            have HOBv9 := Lib.hid (Ow7)
            have HOMv9 := Lib.hid (HOMv8.out.only Nw7 (by omega))
            have HOUv9 := Lib.hid (HOUv8.out.only Nw7 (by omega))
            have HXv9 := Lib.hid (eonly HXv8.out Nw7 (by omega))
            clear Ow7 Nw7
            clear u0 u1 u2 u3 uz b10 bz bf
            have u3 := HOUv9.out.cells.2 3 _ rfl
            have uz := HOUv9.out.cells.1
            go_wp2_with (first | (refine wp_ldN 35 [.int .i64 c.T.id, .string c.T.name, .int .i64 c.T.len, .int .i64 c.T.speed, .int .i64 c.T.accel, .int .i64 c.T.service, .int .i64 c.T.emergency, .int .i64 c.T.delay, .int .i64 c.T.cons, .int .i64 c.T.rate, .int .i64 6, .int .i64 c.brake, .int .i64 c.next, .int .i64 c.E.min, .int .i64 c.E.max, .int .i64 c.E.speed, .int .i64 c.seq, .int .i64 c.en, .slice A c.p.length ca, .slice L c.k.length cl, .int .i64 c.peer, .int .i64 c.out, .int .i64 c.inn, .int .i64 c.heard, .bool c.known, .int .i64 c.since] rfl rfl rfl (HOBv9.out).cells Tryd.underlying35 szCab rfl ?_) | (refine wp_ldN 39 [.int .i64 m.kind, .int .i64 m.frm, .int .i64 m.to_, .int .i64 m.seq, .int .i64 m.time, .int .i64 m.aseq, .int .i64 m.aen, .slice B m.p.length cb, .slice D m.k.length cd, .int .i64 m.rmin, .int .i64 m.rspeed, .int .i64 m.rmode, .int .i64 m.racc, .bool m.rwhole] rfl rfl rfl (HOMv9.out).cells Tryd.underlying39 szMsg rfl ?_))
            refine (HRC.out _ HXv9.out HPL.out HKL.out).mono ?_
            rintro e w8 ⟨d, n, A3, c3, L3, d3, rfl, qd, hb⟩
            clear u3 uz
            have HOBv10 := Lib.hid (HOBv9.out.keep hb)
            have HOMv10 := Lib.hid (HOMv9.out.keep hb)
            have HOUv10 := Lib.hid (HOUv9.out.keep hb)
            have HXv10 := Lib.hid (etr HXv9.out hb)
            clear hb
            go_upto_region 8 with (first | (refine wp_stN 35 [.int .i64 d.T.id, .string d.T.name, .int .i64 d.T.len, .int .i64 d.T.speed, .int .i64 d.T.accel, .int .i64 d.T.service, .int .i64 d.T.emergency, .int .i64 d.T.delay, .int .i64 d.T.cons, .int .i64 d.T.rate, .int .i64 d.mode, .int .i64 d.brake, .int .i64 d.next, .int .i64 d.E.min, .int .i64 d.E.max, .int .i64 d.E.speed, .int .i64 d.seq, .int .i64 d.en, .slice A3 d.p.length c3, .slice L3 d.k.length d3, .int .i64 d.peer, .int .i64 d.out, .int .i64 d.inn, .int .i64 d.heard, .bool d.known, .int .i64 d.since] [.int .i64 d.T.id, .string d.T.name, .int .i64 d.T.len, .int .i64 d.T.speed, .int .i64 d.T.accel, .int .i64 d.T.service, .int .i64 d.T.emergency, .int .i64 d.T.delay, .int .i64 d.T.cons, .int .i64 d.T.rate, .int .i64 d.mode, .int .i64 d.brake, .int .i64 d.next, .int .i64 d.E.min, .int .i64 d.E.max, .int .i64 d.E.speed, .int .i64 d.seq, .int .i64 d.en, .slice A3 d.p.length c3, .slice L3 d.k.length d3, .int .i64 d.peer, .int .i64 d.out, .int .i64 d.inn, .int .i64 d.heard, .bool d.known, .int .i64 d.since] rfl rfl rfl (Own.new (w := w8) (cs := #[.int .i64 0, .string ⟨#[]⟩, .int .i64 0, .int .i64 0, .int .i64 0, .int .i64 0, .int .i64 0, .int .i64 0, .int .i64 0, .int .i64 0, .int .i64 0, .int .i64 0, .int .i64 0, .int .i64 0, .int .i64 0, .int .i64 0, .int .i64 0, .int .i64 0, .slice none 0 0, .slice none 0 0, .int .i64 0, .int .i64 0, .int .i64 0, .int .i64 0, .bool false, .int .i64 0]) (t := 35) rfl) rfl szCab rfl (by show (0 + 26 : Nat) ≤ 26; decide) rfl ?_; intro w9 Hn))
            have gn : Ext w8 w9 := eonly (eal (Ext.refl _) _) Hn.out.2 (Nat.le_refl _)
            have HOBv11 := Lib.hid (HOBv10.out.keep gn)
            have HOMv11 := Lib.hid (HOMv10.out.keep gn)
            have HOUv11 := Lib.hid (HOUv10.out.keep gn)
            have HXv11 := Lib.hid (etr HXv10.out gn)
            have HOE := Lib.hid Hn.out.1
            clear gn Hn
            try dsimp only [Act.put]
            have e10 := HOE.out.cells.2 10 _ rfl
            have ez := HOE.out.cells.1
            have u3 := HOUv11.out.cells.2 3 _ rfl
            have uz := HOUv11.out.cells.1
            go_wp2_with (first | (refine wp_ldG 35 [.int .i64 c.T.id, .string c.T.name, .int .i64 c.T.len, .int .i64 c.T.speed, .int .i64 c.T.accel, .int .i64 c.T.service, .int .i64 c.T.emergency, .int .i64 c.T.delay, .int .i64 c.T.cons, .int .i64 c.T.rate, .int .i64 6, .int .i64 c.brake, .int .i64 c.next, .int .i64 c.E.min, .int .i64 c.E.max, .int .i64 c.E.speed, .int .i64 c.seq, .int .i64 c.en, .slice A c.p.length ca, .slice L c.k.length cl, .int .i64 c.peer, .int .i64 c.out, .int .i64 c.inn, .int .i64 c.heard, .bool c.known, .int .i64 c.since] rfl rfl rfl (HOBv11.out).cells Tryd.underlying35 szCab rfl ?_))
            refine (HD6.out _ HXv11.out HPL.out HKL.out).mono ?_
            rintro e w10 ⟨A3, c3, L3, d3, rfl, hb⟩
            clear e10 ez u3 uz qd
            have HOBv12 := Lib.hid (HOBv11.out.keep hb)
            have HOMv12 := Lib.hid (HOMv11.out.keep hb)
            have HOUv12 := Lib.hid (HOUv11.out.keep hb)
            have HXv12 := Lib.hid (etr HXv11.out hb)
            clear hb
            have hf3 : ∀ x : World, (Instr.field 35 (.agg #[.int .i64 c.T.id, .string c.T.name, .int .i64 c.T.len, .int .i64 c.T.speed, .int .i64 c.T.accel, .int .i64 c.T.service, .int .i64 c.T.emergency, .int .i64 c.T.delay, .int .i64 c.T.cons, .int .i64 c.T.rate, .int .i64 6, .int .i64 2, .int .i64 c.next, .int .i64 c.E.min, .int .i64 c.E.max, .int .i64 c.E.speed, .int .i64 c.seq, .int .i64 c.en, .slice A3 c.p.length c3, .slice L3 c.k.length d3, .int .i64 c.peer, .int .i64 c.out, .int .i64 c.inn, .int .i64 c.heard, .bool c.known, .int .i64 c.since]) 1).run Tryd.prog x = .ok (.int .i64 6) x := fun _ => by kernel_rfl
            go_wp2_with fail
            clear hf3
            go_loopg [9] 7 (fun g i wr => ∃ j : Nat, i = .int .i64 j ∧ 1 ≤ j ∧ j ≤ 8 ∧ g = 8 - j ∧ Hid (Ext w wr ∧ Own wr w.heap.size [.int .i64 c.T.id, .string c.T.name, .int .i64 c.T.len, .int .i64 c.T.speed, .int .i64 c.T.accel, .int .i64 c.T.service, .int .i64 c.T.emergency, .int .i64 c.T.delay, .int .i64 c.T.cons, .int .i64 c.T.rate, .int .i64 6, .int .i64 c.brake, .int .i64 c.next, .int .i64 c.E.min, .int .i64 c.E.max, .int .i64 c.E.speed, .int .i64 c.seq, .int .i64 c.en, .slice A c.p.length ca, .slice L c.k.length cl, .int .i64 c.peer, .int .i64 c.out, .int .i64 c.inn, .int .i64 c.heard, .bool c.known, .int .i64 c.since]))
            case atStart => exact ⟨1, rfl, by omega, by omega, rfl, HXv12.out, HOBv12.out⟩
            case round =>
              obtain ⟨j, rfl, hj1, hj8, hg, H⟩ := hrel
              have HG := Lib.hid hg
              have HXl := Lib.hid H.out.1
              have HBl := Lib.hid H.out.2
              clear hg H
              by_cases hlt : j ≤ 7
              · obtain ⟨ec, en, hcase, hev⟩ := HEV.out j hj1 hlt
                have HEC := Lib.hid hev
                have HCS := Lib.hid hcase
                clear hcase hev
                have qj : decide ((j : Int) ≤ 7) = true := decide_eq_true (by omega)
                go_wp2_with (first | (refine wp_ldN 35 [.int .i64 c.T.id, .string c.T.name, .int .i64 c.T.len, .int .i64 c.T.speed, .int .i64 c.T.accel, .int .i64 c.T.service, .int .i64 c.T.emergency, .int .i64 c.T.delay, .int .i64 c.T.cons, .int .i64 c.T.rate, .int .i64 6, .int .i64 c.brake, .int .i64 c.next, .int .i64 c.E.min, .int .i64 c.E.max, .int .i64 c.E.speed, .int .i64 c.seq, .int .i64 c.en, .slice A c.p.length ca, .slice L c.k.length cl, .int .i64 c.peer, .int .i64 c.out, .int .i64 c.inn, .int .i64 c.heard, .bool c.known, .int .i64 c.since] rfl rfl rfl (HBl.out).cells Tryd.underlying35 szCab rfl ?_))
                refine (HEC.out _ HXl.out HPL.out HKL.out).mono ?_
                rintro e w11 ⟨A3, c3, L3, d3, rfl, hb⟩
                have HOBv1 := Lib.hid (HBl.out.keep hb)
                have HXv1 := Lib.hid (etr HXl.out hb)
                clear hb
                go_upto_region 14 with (first | (refine wp_stN 35 [.int .i64 ec.T.id, .string ec.T.name, .int .i64 ec.T.len, .int .i64 ec.T.speed, .int .i64 ec.T.accel, .int .i64 ec.T.service, .int .i64 ec.T.emergency, .int .i64 ec.T.delay, .int .i64 ec.T.cons, .int .i64 ec.T.rate, .int .i64 ec.mode, .int .i64 ec.brake, .int .i64 ec.next, .int .i64 ec.E.min, .int .i64 ec.E.max, .int .i64 ec.E.speed, .int .i64 ec.seq, .int .i64 ec.en, .slice A3 ec.p.length c3, .slice L3 ec.k.length d3, .int .i64 ec.peer, .int .i64 ec.out, .int .i64 ec.inn, .int .i64 ec.heard, .bool ec.known, .int .i64 ec.since] [.int .i64 ec.T.id, .string ec.T.name, .int .i64 ec.T.len, .int .i64 ec.T.speed, .int .i64 ec.T.accel, .int .i64 ec.T.service, .int .i64 ec.T.emergency, .int .i64 ec.T.delay, .int .i64 ec.T.cons, .int .i64 ec.T.rate, .int .i64 ec.mode, .int .i64 ec.brake, .int .i64 ec.next, .int .i64 ec.E.min, .int .i64 ec.E.max, .int .i64 ec.E.speed, .int .i64 ec.seq, .int .i64 ec.en, .slice A3 ec.p.length c3, .slice L3 ec.k.length d3, .int .i64 ec.peer, .int .i64 ec.out, .int .i64 ec.inn, .int .i64 ec.heard, .bool ec.known, .int .i64 ec.since] rfl rfl rfl (Own.new (w := w11) (cs := #[.int .i64 0, .string ⟨#[]⟩, .int .i64 0, .int .i64 0, .int .i64 0, .int .i64 0, .int .i64 0, .int .i64 0, .int .i64 0, .int .i64 0, .int .i64 0, .int .i64 0, .int .i64 0, .int .i64 0, .int .i64 0, .int .i64 0, .int .i64 0, .int .i64 0, .slice none 0 0, .slice none 0 0, .int .i64 0, .int .i64 0, .int .i64 0, .int .i64 0, .bool false, .int .i64 0]) (t := 35) rfl) rfl szCab rfl (by show (0 + 26 : Nat) ≤ 26; decide) rfl ?_; intro w12 Hn))
                have gn : Ext w11 w12 := eonly (eal (Ext.refl _) _) Hn.out.2 (Nat.le_refl _)
                have HOBv2 := Lib.hid (HOBv1.out.keep gn)
                have HXv2 := Lib.hid (etr HXv1.out gn)
                have HOE := Lib.hid Hn.out.1
                clear gn Hn
                try dsimp only [Act.put]
                have b15 := HOBv2.out.cells.2 15 _ rfl
                have bz := HOBv2.out.cells.1
                have e10 := HOE.out.cells.2 10 _ rfl
                have ez := HOE.out.cells.1
                rcases HCS.out with ⟨q1, q2, q3, q4⟩ | ⟨q1, q3, q4⟩ | ⟨q1, q2, q3, q4⟩
                all_goals
                  go_wp2
                  go_roundg (8 - (j + 1))
                  case measure => have := HG.out; omega
                  case rel => exact ⟨j + 1, by go_num, by omega, by omega, rfl, HXv2.out, HOBv2.out⟩
              · have qj : decide ((j : Int) ≤ 7) = false := decide_eq_false (by omega)
                go_wp2_with fail
                refine (HAL.out _ (HT.out.keep HXl.out)).mono ?_
                rintro e w3 ⟨rfl, hb⟩
                go_wp2
                go_ret
                exact ⟨rfl, etr HXl.out hb⟩
          · go_upto_region 4 with (fail)
            clear u1 uz m7 m8 mz u3 b10 bz bf hmod
            obtain ⟨w3, hw3⟩ : ∃ x, x = (w2.setCell ⟨w.heap.size, 10, none⟩ (.int .i64 6)) := ⟨_, rfl⟩
            obtain ⟨Ow3, Nw3⟩ := setN_at HOBv1.out 10 [.int .i64 6] (ws := [.int .i64 c.T.id, .string c.T.name, .int .i64 c.T.len, .int .i64 c.T.speed, .int .i64 c.T.accel, .int .i64 c.T.service, .int .i64 c.T.emergency, .int .i64 c.T.delay, .int .i64 c.T.cons, .int .i64 c.T.rate, .int .i64 6, .int .i64 c.brake, .int .i64 c.next, .int .i64 c.E.min, .int .i64 c.E.max, .int .i64 c.E.speed, .int .i64 c.seq, .int .i64 c.en, .slice A c.p.length ca, .slice L c.k.length cl, .int .i64 c.peer, .int .i64 c.out, .int .i64 c.inn, .int .i64 c.heard, .bool c.known, .int .i64 c.since]) rfl (by simp) hw3
            rw [← hw3]
            clear hw3
            have HOBv2 := Lib.hid (Ow3)
            have HOMv2 := Lib.hid (HOMv1.out.only Nw3 (by omega))
            have HOUv2 := Lib.hid (HOUv1.out.only Nw3 (by omega))
            have HXv2 := Lib.hid (eonly HXv1.out Nw3 (by omega))
            clear Ow3 Nw3
            obtain ⟨w4, hw4⟩ : ∃ x, x = w3.alloc (.cells #[.int .i64 1, .int .i64 6, .int .i64 7] 3) := ⟨_, rfl⟩
            have g3 : Ext w3 w4 := by rw [hw4]; exact eal (Ext.refl _) _
            rw [← hw4]
            clear hw4
            have HOBv3 := Lib.hid (HOBv2.out.keep g3)
            have HOMv3 := Lib.hid (HOMv2.out.keep g3)
            have HOUv3 := Lib.hid (HOUv2.out.keep g3)
            have HXv3 := Lib.hid (etr HXv2.out g3)
            clear g3
            have u0 := HOUv3.out.cells.2 0 _ rfl
            have u1 := HOUv3.out.cells.2 1 _ rfl
            have u2 := HOUv3.out.cells.2 2 _ rfl
            have u3 := HOUv3.out.cells.2 3 _ rfl
            have uz := HOUv3.out.cells.1
            have b10 := HOBv3.out.cells.2 10 _ rfl
            have bz := HOBv3.out.cells.1
            refine wp_region_mono [0, 1, 2] 19 (by kernel_rfl) (by kernel_rfl) (fun _ _ d _ _ h => by cases d <;> exact h) (by kernel_rfl) (by kernel_rfl) ?_
            refine wE_ldN 35 [.int .i64 c.T.id, .string c.T.name, .int .i64 c.T.len, .int .i64 c.T.speed, .int .i64 c.T.accel, .int .i64 c.T.service, .int .i64 c.T.emergency, .int .i64 c.T.delay, .int .i64 c.T.cons, .int .i64 c.T.rate, .int .i64 6, .int .i64 c.brake, .int .i64 c.next, .int .i64 c.E.min, .int .i64 c.E.max, .int .i64 c.E.speed, .int .i64 c.seq, .int .i64 c.en, .slice A c.p.length ca, .slice L c.k.length cl, .int .i64 c.peer, .int .i64 c.out, .int .i64 c.inn, .int .i64 c.heard, .bool c.known, .int .i64 c.since] rfl rfl rfl rfl (HOBv3.out).cells Tryd.underlying35 szCab rfl ?_
            go_simp
            iterate 2 (refine wpE_step rfl (fun K hK => ?_); go_simp; (refine hK _ ?_; clear hK K))
            refine wpE_nil ?_
            intro y
            have hy := y.is
            clear u0 u1 u2 u3 uz b10 bz
            have HOBv4 := Lib.hid (HOBv3.out.keep hy)
            have HOMv4 := Lib.hid (HOMv3.out.keep hy)
            have HOUv4 := Lib.hid (HOUv3.out.keep hy)
            have HXv4 := Lib.hid (etr HXv3.out hy)
            clear hy
            refine wpAnyR_ready (rs := [3]) (by kernel_rfl) (by simp) (AllR.cons rfl (fun K hK => ?_) AllR.nil)
            go_simp
            go_wp2_with fail
            refine (HD6.out _ HXv4.out HPL.out HKL.out).mono ?_
            rintro e w5 ⟨A3, c3, L3, d3, rfl, hb⟩
            refine hK _ _ hb (fun y2 => ?_)
            clear hK K
            have g5 := etr hb y2.is
            clear hb
            have HOBv5 := Lib.hid (HOBv4.out.keep g5)
            have HOMv5 := Lib.hid (HOMv4.out.keep g5)
            have HOUv5 := Lib.hid (HOUv4.out.keep g5)
            have HXv5 := Lib.hid (etr HXv4.out g5)
            clear g5
            have u0 := HOUv5.out.cells.2 0 _ rfl
            have u1 := HOUv5.out.cells.2 1 _ rfl
            have u2 := HOUv5.out.cells.2 2 _ rfl
            have u3 := HOUv5.out.cells.2 3 _ rfl
            have uz := HOUv5.out.cells.1
            have b10 := HOBv5.out.cells.2 10 _ rfl
            have bz := HOBv5.out.cells.1
            have hf1 : ∀ x : World, (Instr.field 35 (.agg #[.int .i64 c.T.id, .string c.T.name, .int .i64 c.T.len, .int .i64 c.T.speed, .int .i64 c.T.accel, .int .i64 c.T.service, .int .i64 c.T.emergency, .int .i64 c.T.delay, .int .i64 c.T.cons, .int .i64 c.T.rate, .int .i64 6, .int .i64 2, .int .i64 c.next, .int .i64 c.E.min, .int .i64 c.E.max, .int .i64 c.E.speed, .int .i64 c.seq, .int .i64 c.en, .slice A3 c.p.length c3, .slice L3 c.k.length d3, .int .i64 c.peer, .int .i64 c.out, .int .i64 c.inn, .int .i64 c.heard, .bool c.known, .int .i64 c.since]) 2).run Tryd.prog x = .ok (.int .i64 2) x := fun _ => by kernel_rfl
            refine wpAnyR_more [4, 5, 6, 7, 8, 9, 10, 11, 12, 13, 14, 15, 18, 19] (fuel := 4) (by kernel_rfl) (fun _ _ d _ _ h => by cases d <;> exact h) (by kernel_rfl) rfl ?_
            iterate 3 (refine wpE_step rfl (fun K hK => ?_); go_simp; (refine hK _ ?_; clear hK K))
            refine wE_ldN 35 [.int .i64 c.T.id, .string c.T.name, .int .i64 c.T.len, .int .i64 c.T.speed, .int .i64 c.T.accel, .int .i64 c.T.service, .int .i64 c.T.emergency, .int .i64 c.T.delay, .int .i64 c.T.cons, .int .i64 c.T.rate, .int .i64 6, .int .i64 c.brake, .int .i64 c.next, .int .i64 c.E.min, .int .i64 c.E.max, .int .i64 c.E.speed, .int .i64 c.seq, .int .i64 c.en, .slice A c.p.length ca, .slice L c.k.length cl, .int .i64 c.peer, .int .i64 c.out, .int .i64 c.inn, .int .i64 c.heard, .bool c.known, .int .i64 c.since] rfl rfl rfl rfl (HOBv5.out).cells Tryd.underlying35 szCab rfl ?_
            go_simp
            iterate 10 (refine wpE_step rfl (fun K hK => ?_); go_simp; (refine hK _ ?_; clear hK K))
            refine wpE_nil ?_
            intro y3
            have hy := y3.is
            clear u0 u1 u2 u3 uz b10 bz hf1
            have HOBv6 := Lib.hid (HOBv5.out.keep hy)
            have HOMv6 := Lib.hid (HOMv5.out.keep hy)
            have HOUv6 := Lib.hid (HOUv5.out.keep hy)
            have HXv6 := Lib.hid (etr HXv5.out hy)
            clear hy
            refine wpAnyR_ready (rs := [16]) (by kernel_rfl) (by simp) (AllR.cons rfl (fun K hK => ?_) AllR.nil)
            go_simp
            go_wp2_with fail
            refine (HM6.out _ HXv6.out HOK.out HPL.out HKL.out HRL.out).mono ?_
            rintro e w6 ⟨d, A3, c3, L3, d3, rfl, qd, hb⟩
            refine hK _ _ hb (fun y4 => ?_)
            clear hK K
            have g6 := etr hb y4.is
            clear hb
            have HOBv7 := Lib.hid (HOBv6.out.keep g6)
            have HOMv7 := Lib.hid (HOMv6.out.keep g6)
            have HOUv7 := Lib.hid (HOUv6.out.keep g6)
            have HXv7 := Lib.hid (etr HXv6.out g6)
            clear g6
            have hf2 : ∀ x : World, (Instr.field 35 (.agg #[.int .i64 d.T.id, .string d.T.name, .int .i64 d.T.len, .int .i64 d.T.speed, .int .i64 d.T.accel, .int .i64 d.T.service, .int .i64 d.T.emergency, .int .i64 d.T.delay, .int .i64 d.T.cons, .int .i64 d.T.rate, .int .i64 d.mode, .int .i64 d.brake, .int .i64 d.next, .int .i64 d.E.min, .int .i64 d.E.max, .int .i64 d.E.speed, .int .i64 d.seq, .int .i64 d.en, .slice A3 d.p.length c3, .slice L3 d.k.length d3, .int .i64 d.peer, .int .i64 d.out, .int .i64 d.inn, .int .i64 d.heard, .bool d.known, .int .i64 d.since]) 1).run Tryd.prog x = .ok (.int .i64 d.mode) x := fun _ => by kernel_rfl
            refine wpAnyR_more [17, 20, 21] (fuel := 0) (by kernel_rfl) (fun _ _ d _ _ h => by cases d <;> exact h) (by kernel_rfl) rfl ?_
            iterate 3 (refine wpE_step rfl (fun K hK => ?_); go_simp; (refine hK _ ?_; clear hK K))
            refine wpE_nil ?_
            intro y5
            have hy := y5.is
            have HOBv8 := Lib.hid (HOBv7.out.keep hy)
            have HOMv8 := Lib.hid (HOMv7.out.keep hy)
            have HOUv8 := Lib.hid (HOUv7.out.keep hy)
            have HXv8 := Lib.hid (etr HXv7.out hy)
            clear hy hf2 qd
            refine wpAnyR_done (by kernel_rfl) ?_ _
            have u0 := HOUv8.out.cells.2 0 _ rfl
            have u1 := HOUv8.out.cells.2 1 _ rfl
            have u2 := HOUv8.out.cells.2 2 _ rfl
            have u3 := HOUv8.out.cells.2 3 _ rfl
            have uz := HOUv8.out.cells.1
            have b10 := HOBv8.out.cells.2 10 _ rfl
            have bz := HOBv8.out.cells.1
            have bf := HOBv8.out.2.2
            go_upto_region 7 with (fail)
            obtain ⟨w7, hw7⟩ : ∃ x, x = (y5.val.setCell ⟨w.heap.size, 10, none⟩ (.int .i64 6)) := ⟨_, rfl⟩
            obtain ⟨Ow7, Nw7⟩ := setN_at HOBv8.out 10 [.int .i64 6] (ws := [.int .i64 c.T.id, .string c.T.name, .int .i64 c.T.len, .int .i64 c.T.speed, .int .i64 c.T.accel, .int .i64 c.T.service, .int .i64 c.T.emergency, .int .i64 c.T.delay, .int .i64 c.T.cons, .int .i64 c.T.rate, .int .i64 6, .int .i64 c.brake, .int .i64 c.next, .int .i64 c.E.min, .int .i64 c.E.max, .int .i64 c.E.speed, .int .i64 c.seq, .int .i64 c.en, .slice A c.p.length ca, .slice L c.k.length cl, .int .i64 c.peer, .int .i64 c.out, .int .i64 c.inn, .int .i64 c.heard, .bool c.known, .int .i64 c.since]) rfl (by simp) hw7
            rw [← hw7]
            clear hw7
            have HOBv9 := Lib.hid (Ow7)
            have HOMv9 := Lib.hid (HOMv8.out.only Nw7 (by omega))
            have HOUv9 := Lib.hid (HOUv8.out.only Nw7 (by omega))
            have HXv9 := Lib.hid (eonly HXv8.out Nw7 (by omega))
            clear Ow7 Nw7
            clear u0 u1 u2 u3 uz b10 bz bf
            have u3 := HOUv9.out.cells.2 3 _ rfl
            have uz := HOUv9.out.cells.1
            go_wp2_with (first | (refine wp_ldN 35 [.int .i64 c.T.id, .string c.T.name, .int .i64 c.T.len, .int .i64 c.T.speed, .int .i64 c.T.accel, .int .i64 c.T.service, .int .i64 c.T.emergency, .int .i64 c.T.delay, .int .i64 c.T.cons, .int .i64 c.T.rate, .int .i64 6, .int .i64 c.brake, .int .i64 c.next, .int .i64 c.E.min, .int .i64 c.E.max, .int .i64 c.E.speed, .int .i64 c.seq, .int .i64 c.en, .slice A c.p.length ca, .slice L c.k.length cl, .int .i64 c.peer, .int .i64 c.out, .int .i64 c.inn, .int .i64 c.heard, .bool c.known, .int .i64 c.since] rfl rfl rfl (HOBv9.out).cells Tryd.underlying35 szCab rfl ?_) | (refine wp_ldN 39 [.int .i64 m.kind, .int .i64 m.frm, .int .i64 m.to_, .int .i64 m.seq, .int .i64 m.time, .int .i64 m.aseq, .int .i64 m.aen, .slice B m.p.length cb, .slice D m.k.length cd, .int .i64 m.rmin, .int .i64 m.rspeed, .int .i64 m.rmode, .int .i64 m.racc, .bool m.rwhole] rfl rfl rfl (HOMv9.out).cells Tryd.underlying39 szMsg rfl ?_))
            refine (HRC.out _ HXv9.out HPL.out HKL.out).mono ?_
            rintro e w8 ⟨d, n, A3, c3, L3, d3, rfl, qd, hb⟩
            clear u3 uz
            have HOBv10 := Lib.hid (HOBv9.out.keep hb)
            have HOMv10 := Lib.hid (HOMv9.out.keep hb)
            have HOUv10 := Lib.hid (HOUv9.out.keep hb)
            have HXv10 := Lib.hid (etr HXv9.out hb)
            clear hb
            go_upto_region 8 with (first | (refine wp_stN 35 [.int .i64 d.T.id, .string d.T.name, .int .i64 d.T.len, .int .i64 d.T.speed, .int .i64 d.T.accel, .int .i64 d.T.service, .int .i64 d.T.emergency, .int .i64 d.T.delay, .int .i64 d.T.cons, .int .i64 d.T.rate, .int .i64 d.mode, .int .i64 d.brake, .int .i64 d.next, .int .i64 d.E.min, .int .i64 d.E.max, .int .i64 d.E.speed, .int .i64 d.seq, .int .i64 d.en, .slice A3 d.p.length c3, .slice L3 d.k.length d3, .int .i64 d.peer, .int .i64 d.out, .int .i64 d.inn, .int .i64 d.heard, .bool d.known, .int .i64 d.since] [.int .i64 d.T.id, .string d.T.name, .int .i64 d.T.len, .int .i64 d.T.speed, .int .i64 d.T.accel, .int .i64 d.T.service, .int .i64 d.T.emergency, .int .i64 d.T.delay, .int .i64 d.T.cons, .int .i64 d.T.rate, .int .i64 d.mode, .int .i64 d.brake, .int .i64 d.next, .int .i64 d.E.min, .int .i64 d.E.max, .int .i64 d.E.speed, .int .i64 d.seq, .int .i64 d.en, .slice A3 d.p.length c3, .slice L3 d.k.length d3, .int .i64 d.peer, .int .i64 d.out, .int .i64 d.inn, .int .i64 d.heard, .bool d.known, .int .i64 d.since] rfl rfl rfl (Own.new (w := w8) (cs := #[.int .i64 0, .string ⟨#[]⟩, .int .i64 0, .int .i64 0, .int .i64 0, .int .i64 0, .int .i64 0, .int .i64 0, .int .i64 0, .int .i64 0, .int .i64 0, .int .i64 0, .int .i64 0, .int .i64 0, .int .i64 0, .int .i64 0, .int .i64 0, .int .i64 0, .slice none 0 0, .slice none 0 0, .int .i64 0, .int .i64 0, .int .i64 0, .int .i64 0, .bool false, .int .i64 0]) (t := 35) rfl) rfl szCab rfl (by show (0 + 26 : Nat) ≤ 26; decide) rfl ?_; intro w9 Hn))
            have gn : Ext w8 w9 := eonly (eal (Ext.refl _) _) Hn.out.2 (Nat.le_refl _)
            have HOBv11 := Lib.hid (HOBv10.out.keep gn)
            have HOMv11 := Lib.hid (HOMv10.out.keep gn)
            have HOUv11 := Lib.hid (HOUv10.out.keep gn)
            have HXv11 := Lib.hid (etr HXv10.out gn)
            have HOE := Lib.hid Hn.out.1
            clear gn Hn
            try dsimp only [Act.put]
            have e10 := HOE.out.cells.2 10 _ rfl
            have ez := HOE.out.cells.1
            have u3 := HOUv11.out.cells.2 3 _ rfl
            have uz := HOUv11.out.cells.1
            go_wp2_with (first | (refine wp_ldG 35 [.int .i64 c.T.id, .string c.T.name, .int .i64 c.T.len, .int .i64 c.T.speed, .int .i64 c.T.accel, .int .i64 c.T.service, .int .i64 c.T.emergency, .int .i64 c.T.delay, .int .i64 c.T.cons, .int .i64 c.T.rate, .int .i64 6, .int .i64 c.brake, .int .i64 c.next, .int .i64 c.E.min, .int .i64 c.E.max, .int .i64 c.E.speed, .int .i64 c.seq, .int .i64 c.en, .slice A c.p.length ca, .slice L c.k.length cl, .int .i64 c.peer, .int .i64 c.out, .int .i64 c.inn, .int .i64 c.heard, .bool c.known, .int .i64 c.since] rfl rfl rfl (HOBv11.out).cells Tryd.underlying35 szCab rfl ?_))
            refine (HD6.out _ HXv11.out HPL.out HKL.out).mono ?_
            rintro e w10 ⟨A3, c3, L3, d3, rfl, hb⟩
            clear e10 ez u3 uz qd
            have HOBv12 := Lib.hid (HOBv11.out.keep hb)
            have HOMv12 := Lib.hid (HOMv11.out.keep hb)
            have HOUv12 := Lib.hid (HOUv11.out.keep hb)
            have HXv12 := Lib.hid (etr HXv11.out hb)
            clear hb
            have hf3 : ∀ x : World, (Instr.field 35 (.agg #[.int .i64 c.T.id, .string c.T.name, .int .i64 c.T.len, .int .i64 c.T.speed, .int .i64 c.T.accel, .int .i64 c.T.service, .int .i64 c.T.emergency, .int .i64 c.T.delay, .int .i64 c.T.cons, .int .i64 c.T.rate, .int .i64 6, .int .i64 2, .int .i64 c.next, .int .i64 c.E.min, .int .i64 c.E.max, .int .i64 c.E.speed, .int .i64 c.seq, .int .i64 c.en, .slice A3 c.p.length c3, .slice L3 c.k.length d3, .int .i64 c.peer, .int .i64 c.out, .int .i64 c.inn, .int .i64 c.heard, .bool c.known, .int .i64 c.since]) 1).run Tryd.prog x = .ok (.int .i64 6) x := fun _ => by kernel_rfl
            go_wp2_with fail
            clear hf3
            go_loopg [9] 7 (fun g i wr => ∃ j : Nat, i = .int .i64 j ∧ 1 ≤ j ∧ j ≤ 8 ∧ g = 8 - j ∧ Hid (Ext w wr ∧ Own wr w.heap.size [.int .i64 c.T.id, .string c.T.name, .int .i64 c.T.len, .int .i64 c.T.speed, .int .i64 c.T.accel, .int .i64 c.T.service, .int .i64 c.T.emergency, .int .i64 c.T.delay, .int .i64 c.T.cons, .int .i64 c.T.rate, .int .i64 6, .int .i64 c.brake, .int .i64 c.next, .int .i64 c.E.min, .int .i64 c.E.max, .int .i64 c.E.speed, .int .i64 c.seq, .int .i64 c.en, .slice A c.p.length ca, .slice L c.k.length cl, .int .i64 c.peer, .int .i64 c.out, .int .i64 c.inn, .int .i64 c.heard, .bool c.known, .int .i64 c.since]))
            case atStart => exact ⟨1, rfl, by omega, by omega, rfl, HXv12.out, HOBv12.out⟩
            case round =>
              obtain ⟨j, rfl, hj1, hj8, hg, H⟩ := hrel
              have HG := Lib.hid hg
              have HXl := Lib.hid H.out.1
              have HBl := Lib.hid H.out.2
              clear hg H
              by_cases hlt : j ≤ 7
              · obtain ⟨ec, en, hcase, hev⟩ := HEV.out j hj1 hlt
                have HEC := Lib.hid hev
                have HCS := Lib.hid hcase
                clear hcase hev
                have qj : decide ((j : Int) ≤ 7) = true := decide_eq_true (by omega)
                go_wp2_with (first | (refine wp_ldN 35 [.int .i64 c.T.id, .string c.T.name, .int .i64 c.T.len, .int .i64 c.T.speed, .int .i64 c.T.accel, .int .i64 c.T.service, .int .i64 c.T.emergency, .int .i64 c.T.delay, .int .i64 c.T.cons, .int .i64 c.T.rate, .int .i64 6, .int .i64 c.brake, .int .i64 c.next, .int .i64 c.E.min, .int .i64 c.E.max, .int .i64 c.E.speed, .int .i64 c.seq, .int .i64 c.en, .slice A c.p.length ca, .slice L c.k.length cl, .int .i64 c.peer, .int .i64 c.out, .int .i64 c.inn, .int .i64 c.heard, .bool c.known, .int .i64 c.since] rfl rfl rfl (HBl.out).cells Tryd.underlying35 szCab rfl ?_))
                refine (HEC.out _ HXl.out HPL.out HKL.out).mono ?_
                rintro e w11 ⟨A3, c3, L3, d3, rfl, hb⟩
                have HOBv1 := Lib.hid (HBl.out.keep hb)
                have HXv1 := Lib.hid (etr HXl.out hb)
                clear hb
                go_upto_region 14 with (first | (refine wp_stN 35 [.int .i64 ec.T.id, .string ec.T.name, .int .i64 ec.T.len, .int .i64 ec.T.speed, .int .i64 ec.T.accel, .int .i64 ec.T.service, .int .i64 ec.T.emergency, .int .i64 ec.T.delay, .int .i64 ec.T.cons, .int .i64 ec.T.rate, .int .i64 ec.mode, .int .i64 ec.brake, .int .i64 ec.next, .int .i64 ec.E.min, .int .i64 ec.E.max, .int .i64 ec.E.speed, .int .i64 ec.seq, .int .i64 ec.en, .slice A3 ec.p.length c3, .slice L3 ec.k.length d3, .int .i64 ec.peer, .int .i64 ec.out, .int .i64 ec.inn, .int .i64 ec.heard, .bool ec.known, .int .i64 ec.since] [.int .i64 ec.T.id, .string ec.T.name, .int .i64 ec.T.len, .int .i64 ec.T.speed, .int .i64 ec.T.accel, .int .i64 ec.T.service, .int .i64 ec.T.emergency, .int .i64 ec.T.delay, .int .i64 ec.T.cons, .int .i64 ec.T.rate, .int .i64 ec.mode, .int .i64 ec.brake, .int .i64 ec.next, .int .i64 ec.E.min, .int .i64 ec.E.max, .int .i64 ec.E.speed, .int .i64 ec.seq, .int .i64 ec.en, .slice A3 ec.p.length c3, .slice L3 ec.k.length d3, .int .i64 ec.peer, .int .i64 ec.out, .int .i64 ec.inn, .int .i64 ec.heard, .bool ec.known, .int .i64 ec.since] rfl rfl rfl (Own.new (w := w11) (cs := #[.int .i64 0, .string ⟨#[]⟩, .int .i64 0, .int .i64 0, .int .i64 0, .int .i64 0, .int .i64 0, .int .i64 0, .int .i64 0, .int .i64 0, .int .i64 0, .int .i64 0, .int .i64 0, .int .i64 0, .int .i64 0, .int .i64 0, .int .i64 0, .int .i64 0, .slice none 0 0, .slice none 0 0, .int .i64 0, .int .i64 0, .int .i64 0, .int .i64 0, .bool false, .int .i64 0]) (t := 35) rfl) rfl szCab rfl (by show (0 + 26 : Nat) ≤ 26; decide) rfl ?_; intro w12 Hn))
                have gn : Ext w11 w12 := eonly (eal (Ext.refl _) _) Hn.out.2 (Nat.le_refl _)
                have HOBv2 := Lib.hid (HOBv1.out.keep gn)
                have HXv2 := Lib.hid (etr HXv1.out gn)
                have HOE := Lib.hid Hn.out.1
                clear gn Hn
                try dsimp only [Act.put]
                have b15 := HOBv2.out.cells.2 15 _ rfl
                have bz := HOBv2.out.cells.1
                have e10 := HOE.out.cells.2 10 _ rfl
                have ez := HOE.out.cells.1
                rcases HCS.out with ⟨q1, q2, q3, q4⟩ | ⟨q1, q3, q4⟩ | ⟨q1, q2, q3, q4⟩
                all_goals
                  go_wp2
                  go_roundg (8 - (j + 1))
                  case measure => have := HG.out; omega
                  case rel => exact ⟨j + 1, by go_num, by omega, by omega, rfl, HXv2.out, HOBv2.out⟩
              · have qj : decide ((j : Int) ≤ 7) = false := decide_eq_false (by omega)
                go_wp2_with fail
                refine (HAL.out _ (HT.out.keep HXl.out)).mono ?_
                rintro e w3 ⟨rfl, hb⟩
                go_wp2
                go_ret
                exact ⟨rfl, etr HXl.out hb⟩
          · go_upto_region 4 with (fail)
            clear u1 uz m7 m8 mz u3 b10 bz bf hmod
            obtain ⟨w3, hw3⟩ : ∃ x, x = (w2.setCell ⟨w.heap.size, 10, none⟩ (.int .i64 7)) := ⟨_, rfl⟩
            obtain ⟨Ow3, Nw3⟩ := setN_at HOBv1.out 10 [.int .i64 7] (ws := [.int .i64 c.T.id, .string c.T.name, .int .i64 c.T.len, .int .i64 c.T.speed, .int .i64 c.T.accel, .int .i64 c.T.service, .int .i64 c.T.emergency, .int .i64 c.T.delay, .int .i64 c.T.cons, .int .i64 c.T.rate, .int .i64 7, .int .i64 c.brake, .int .i64 c.next, .int .i64 c.E.min, .int .i64 c.E.max, .int .i64 c.E.speed, .int .i64 c.seq, .int .i64 c.en, .slice A c.p.length ca, .slice L c.k.length cl, .int .i64 c.peer, .int .i64 c.out, .int .i64 c.inn, .int .i64 c.heard, .bool c.known, .int .i64 c.since]) rfl (by simp) hw3
            rw [← hw3]
            clear hw3
            have HOBv2 := Lib.hid (Ow3)
            have HOMv2 := Lib.hid (HOMv1.out.only Nw3 (by omega))
            have HOUv2 := Lib.hid (HOUv1.out.only Nw3 (by omega))
            have HXv2 := Lib.hid (eonly HXv1.out Nw3 (by omega))
            clear Ow3 Nw3
            obtain ⟨w4, hw4⟩ : ∃ x, x = w3.alloc (.cells #[.int .i64 1, .int .i64 6, .int .i64 7] 3) := ⟨_, rfl⟩
            have g3 : Ext w3 w4 := by rw [hw4]; exact eal (Ext.refl _) _
            rw [← hw4]
            clear hw4
            have HOBv3 := Lib.hid (HOBv2.out.keep g3)
            have HOMv3 := Lib.hid (HOMv2.out.keep g3)
            have HOUv3 := Lib.hid (HOUv2.out.keep g3)
            have HXv3 := Lib.hid (etr HXv2.out g3)
            clear g3
            have u0 := HOUv3.out.cells.2 0 _ rfl
            have u1 := HOUv3.out.cells.2 1 _ rfl
            have u2 := HOUv3.out.cells.2 2 _ rfl
            have u3 := HOUv3.out.cells.2 3 _ rfl
            have uz := HOUv3.out.cells.1
            have b10 := HOBv3.out.cells.2 10 _ rfl
            have bz := HOBv3.out.cells.1
            refine wp_region_mono [0, 1, 2] 19 (by kernel_rfl) (by kernel_rfl) (fun _ _ d _ _ h => by cases d <;> exact h) (by kernel_rfl) (by kernel_rfl) ?_
            refine wE_ldN 35 [.int .i64 c.T.id, .string c.T.name, .int .i64 c.T.len, .int .i64 c.T.speed, .int .i64 c.T.accel, .int .i64 c.T.service, .int .i64 c.T.emergency, .int .i64 c.T.delay, .int .i64 c.T.cons, .int .i64 c.T.rate, .int .i64 7, .int .i64 c.brake, .int .i64 c.next, .int .i64 c.E.min, .int .i64 c.E.max, .int .i64 c.E.speed, .int .i64 c.seq, .int .i64 c.en, .slice A c.p.length ca, .slice L c.k.length cl, .int .i64 c.peer, .int .i64 c.out, .int .i64 c.inn, .int .i64 c.heard, .bool c.known, .int .i64 c.since] rfl rfl rfl rfl (HOBv3.out).cells Tryd.underlying35 szCab rfl ?_
            go_simp
            iterate 2 (refine wpE_step rfl (fun K hK => ?_); go_simp; (refine hK _ ?_; clear hK K))
            refine wpE_nil ?_
            intro y
            have hy := y.is
            clear u0 u1 u2 u3 uz b10 bz
            have HOBv4 := Lib.hid (HOBv3.out.keep hy)
            have HOMv4 := Lib.hid (HOMv3.out.keep hy)
            have HOUv4 := Lib.hid (HOUv3.out.keep hy)
            have HXv4 := Lib.hid (etr HXv3.out hy)
            clear hy
            refine wpAnyR_ready (rs := [3]) (by kernel_rfl) (by simp) (AllR.cons rfl (fun K hK => ?_) AllR.nil)
            go_simp
            go_wp2_with fail
            refine (HD7.out _ HXv4.out HPL.out HKL.out).mono ?_
            rintro e w5 ⟨A3, c3, L3, d3, rfl, hb⟩
            refine hK _ _ hb (fun y2 => ?_)
            clear hK K
            have g5 := etr hb y2.is
            clear hb
            have HOBv5 := Lib.hid (HOBv4.out.keep g5)
            have HOMv5 := Lib.hid (HOMv4.out.keep g5)
            have HOUv5 := Lib.hid (HOUv4.out.keep g5)
            have HXv5 := Lib.hid (etr HXv4.out g5)
            clear g5
            have u0 := HOUv5.out.cells.2 0 _ rfl
            have u1 := HOUv5.out.cells.2 1 _ rfl
            have u2 := HOUv5.out.cells.2 2 _ rfl
            have u3 := HOUv5.out.cells.2 3 _ rfl
            have uz := HOUv5.out.cells.1
            have b10 := HOBv5.out.cells.2 10 _ rfl
            have bz := HOBv5.out.cells.1
            have hf1 : ∀ x : World, (Instr.field 35 (.agg #[.int .i64 c.T.id, .string c.T.name, .int .i64 c.T.len, .int .i64 c.T.speed, .int .i64 c.T.accel, .int .i64 c.T.service, .int .i64 c.T.emergency, .int .i64 c.T.delay, .int .i64 c.T.cons, .int .i64 c.T.rate, .int .i64 7, .int .i64 2, .int .i64 c.next, .int .i64 c.E.min, .int .i64 c.E.max, .int .i64 c.E.speed, .int .i64 c.seq, .int .i64 c.en, .slice A3 c.p.length c3, .slice L3 c.k.length d3, .int .i64 c.peer, .int .i64 c.out, .int .i64 c.inn, .int .i64 c.heard, .bool c.known, .int .i64 c.since]) 2).run Tryd.prog x = .ok (.int .i64 2) x := fun _ => by kernel_rfl
            refine wpAnyR_more [4, 5, 6, 7, 8, 9, 10, 11, 12, 13, 14, 15, 18, 19] (fuel := 4) (by kernel_rfl) (fun _ _ d _ _ h => by cases d <;> exact h) (by kernel_rfl) rfl ?_
            iterate 3 (refine wpE_step rfl (fun K hK => ?_); go_simp; (refine hK _ ?_; clear hK K))
            refine wE_ldN 35 [.int .i64 c.T.id, .string c.T.name, .int .i64 c.T.len, .int .i64 c.T.speed, .int .i64 c.T.accel, .int .i64 c.T.service, .int .i64 c.T.emergency, .int .i64 c.T.delay, .int .i64 c.T.cons, .int .i64 c.T.rate, .int .i64 7, .int .i64 c.brake, .int .i64 c.next, .int .i64 c.E.min, .int .i64 c.E.max, .int .i64 c.E.speed, .int .i64 c.seq, .int .i64 c.en, .slice A c.p.length ca, .slice L c.k.length cl, .int .i64 c.peer, .int .i64 c.out, .int .i64 c.inn, .int .i64 c.heard, .bool c.known, .int .i64 c.since] rfl rfl rfl rfl (HOBv5.out).cells Tryd.underlying35 szCab rfl ?_
            go_simp
            iterate 10 (refine wpE_step rfl (fun K hK => ?_); go_simp; (refine hK _ ?_; clear hK K))
            refine wpE_nil ?_
            intro y3
            have hy := y3.is
            clear u0 u1 u2 u3 uz b10 bz hf1
            have HOBv6 := Lib.hid (HOBv5.out.keep hy)
            have HOMv6 := Lib.hid (HOMv5.out.keep hy)
            have HOUv6 := Lib.hid (HOUv5.out.keep hy)
            have HXv6 := Lib.hid (etr HXv5.out hy)
            clear hy
            refine wpAnyR_ready (rs := [16]) (by kernel_rfl) (by simp) (AllR.cons rfl (fun K hK => ?_) AllR.nil)
            go_simp
            go_wp2_with fail
            refine (HM7.out _ HXv6.out HOK.out HPL.out HKL.out HRL.out).mono ?_
            rintro e w6 ⟨d, A3, c3, L3, d3, rfl, qd, hb⟩
            refine hK _ _ hb (fun y4 => ?_)
            clear hK K
            have g6 := etr hb y4.is
            clear hb
            have HOBv7 := Lib.hid (HOBv6.out.keep g6)
            have HOMv7 := Lib.hid (HOMv6.out.keep g6)
            have HOUv7 := Lib.hid (HOUv6.out.keep g6)
            have HXv7 := Lib.hid (etr HXv6.out g6)
            clear g6
            have hf2 : ∀ x : World, (Instr.field 35 (.agg #[.int .i64 d.T.id, .string d.T.name, .int .i64 d.T.len, .int .i64 d.T.speed, .int .i64 d.T.accel, .int .i64 d.T.service, .int .i64 d.T.emergency, .int .i64 d.T.delay, .int .i64 d.T.cons, .int .i64 d.T.rate, .int .i64 d.mode, .int .i64 d.brake, .int .i64 d.next, .int .i64 d.E.min, .int .i64 d.E.max, .int .i64 d.E.speed, .int .i64 d.seq, .int .i64 d.en, .slice A3 d.p.length c3, .slice L3 d.k.length d3, .int .i64 d.peer, .int .i64 d.out, .int .i64 d.inn, .int .i64 d.heard, .bool d.known, .int .i64 d.since]) 1).run Tryd.prog x = .ok (.int .i64 d.mode) x := fun _ => by kernel_rfl
            refine wpAnyR_more [17, 20, 21] (fuel := 0) (by kernel_rfl) (fun _ _ d _ _ h => by cases d <;> exact h) (by kernel_rfl) rfl ?_
            iterate 3 (refine wpE_step rfl (fun K hK => ?_); go_simp; (refine hK _ ?_; clear hK K))
            refine wpE_nil ?_
            intro y5
            have hy := y5.is
            have HOBv8 := Lib.hid (HOBv7.out.keep hy)
            have HOMv8 := Lib.hid (HOMv7.out.keep hy)
            have HOUv8 := Lib.hid (HOUv7.out.keep hy)
            have HXv8 := Lib.hid (etr HXv7.out hy)
            clear hy hf2 qd
            refine wpAnyR_done (by kernel_rfl) ?_ _
            have u0 := HOUv8.out.cells.2 0 _ rfl
            have u1 := HOUv8.out.cells.2 1 _ rfl
            have u2 := HOUv8.out.cells.2 2 _ rfl
            have u3 := HOUv8.out.cells.2 3 _ rfl
            have uz := HOUv8.out.cells.1
            have b10 := HOBv8.out.cells.2 10 _ rfl
            have bz := HOBv8.out.cells.1
            have bf := HOBv8.out.2.2
            go_upto_region 7 with (fail)
            obtain ⟨w7, hw7⟩ : ∃ x, x = (y5.val.setCell ⟨w.heap.size, 10, none⟩ (.int .i64 6)) := ⟨_, rfl⟩
            obtain ⟨Ow7, Nw7⟩ := setN_at HOBv8.out 10 [.int .i64 6] (ws := [.int .i64 c.T.id, .string c.T.name, .int .i64 c.T.len, .int .i64 c.T.speed, .int .i64 c.T.accel, .int .i64 c.T.service, .int .i64 c.T.emergency, .int .i64 c.T.delay, .int .i64 c.T.cons, .int .i64 c.T.rate, .int .i64 6, .int .i64 c.brake, .int .i64 c.next, .int .i64 c.E.min, .int .i64 c.E.max, .int .i64 c.E.speed, .int .i64 c.seq, .int .i64 c.en, .slice A c.p.length ca, .slice L c.k.length cl, .int .i64 c.peer, .int .i64 c.out, .int .i64 c.inn, .int .i64 c.heard, .bool c.known, .int .i64 c.since]) rfl (by simp) hw7
            rw [← hw7]
            clear hw7
            have HOBv9 := Lib.hid (Ow7)
            have HOMv9 := Lib.hid (HOMv8.out.only Nw7 (by omega))
            have HOUv9 := Lib.hid (HOUv8.out.only Nw7 (by omega))
            have HXv9 := Lib.hid (eonly HXv8.out Nw7 (by omega))
            clear Ow7 Nw7
            clear u0 u1 u2 u3 uz b10 bz bf
            have u3 := HOUv9.out.cells.2 3 _ rfl
            have uz := HOUv9.out.cells.1
            go_wp2_with (first | (refine wp_ldN 35 [.int .i64 c.T.id, .string c.T.name, .int .i64 c.T.len, .int .i64 c.T.speed, .int .i64 c.T.accel, .int .i64 c.T.service, .int .i64 c.T.emergency, .int .i64 c.T.delay, .int .i64 c.T.cons, .int .i64 c.T.rate, .int .i64 6, .int .i64 c.brake, .int .i64 c.next, .int .i64 c.E.min, .int .i64 c.E.max, .int .i64 c.E.speed, .int .i64 c.seq, .int .i64 c.en, .slice A c.p.length ca, .slice L c.k.length cl, .int .i64 c.peer, .int .i64 c.out, .int .i64 c.inn, .int .i64 c.heard, .bool c.known, .int .i64 c.since] rfl rfl rfl (HOBv9.out).cells Tryd.underlying35 szCab rfl ?_) | (refine wp_ldN 39 [.int .i64 m.kind, .int .i64 m.frm, .int .i64 m.to_, .int .i64 m.seq, .int .i64 m.time, .int .i64 m.aseq, .int .i64 m.aen, .slice B m.p.length cb, .slice D m.k.length cd, .int .i64 m.rmin, .int .i64 m.rspeed, .int .i64 m.rmode, .int .i64 m.racc, .bool m.rwhole] rfl rfl rfl (HOMv9.out).cells Tryd.underlying39 szMsg rfl ?_))
            refine (HRC.out _ HXv9.out HPL.out HKL.out).mono ?_
            rintro e w8 ⟨d, n, A3, c3, L3, d3, rfl, qd, hb⟩
            clear u3 uz
            have HOBv10 := Lib.hid (HOBv9.out.keep hb)
            have HOMv10 := Lib.hid (HOMv9.out.keep hb)
            have HOUv10 := Lib.hid (HOUv9.out.keep hb)
            have HXv10 := Lib.hid (etr HXv9.out hb)
            clear hb
            go_upto_region 8 with (first | (refine wp_stN 35 [.int .i64 d.T.id, .string d.T.name, .int .i64 d.T.len, .int .i64 d.T.speed, .int .i64 d.T.accel, .int .i64 d.T.service, .int .i64 d.T.emergency, .int .i64 d.T.delay, .int .i64 d.T.cons, .int .i64 d.T.rate, .int .i64 d.mode, .int .i64 d.brake, .int .i64 d.next, .int .i64 d.E.min, .int .i64 d.E.max, .int .i64 d.E.speed, .int .i64 d.seq, .int .i64 d.en, .slice A3 d.p.length c3, .slice L3 d.k.length d3, .int .i64 d.peer, .int .i64 d.out, .int .i64 d.inn, .int .i64 d.heard, .bool d.known, .int .i64 d.since] [.int .i64 d.T.id, .string d.T.name, .int .i64 d.T.len, .int .i64 d.T.speed, .int .i64 d.T.accel, .int .i64 d.T.service, .int .i64 d.T.emergency, .int .i64 d.T.delay, .int .i64 d.T.cons, .int .i64 d.T.rate, .int .i64 d.mode, .int .i64 d.brake, .int .i64 d.next, .int .i64 d.E.min, .int .i64 d.E.max, .int .i64 d.E.speed, .int .i64 d.seq, .int .i64 d.en, .slice A3 d.p.length c3, .slice L3 d.k.length d3, .int .i64 d.peer, .int .i64 d.out, .int .i64 d.inn, .int .i64 d.heard, .bool d.known, .int .i64 d.since] rfl rfl rfl (Own.new (w := w8) (cs := #[.int .i64 0, .string ⟨#[]⟩, .int .i64 0, .int .i64 0, .int .i64 0, .int .i64 0, .int .i64 0, .int .i64 0, .int .i64 0, .int .i64 0, .int .i64 0, .int .i64 0, .int .i64 0, .int .i64 0, .int .i64 0, .int .i64 0, .int .i64 0, .int .i64 0, .slice none 0 0, .slice none 0 0, .int .i64 0, .int .i64 0, .int .i64 0, .int .i64 0, .bool false, .int .i64 0]) (t := 35) rfl) rfl szCab rfl (by show (0 + 26 : Nat) ≤ 26; decide) rfl ?_; intro w9 Hn))
            have gn : Ext w8 w9 := eonly (eal (Ext.refl _) _) Hn.out.2 (Nat.le_refl _)
            have HOBv11 := Lib.hid (HOBv10.out.keep gn)
            have HOMv11 := Lib.hid (HOMv10.out.keep gn)
            have HOUv11 := Lib.hid (HOUv10.out.keep gn)
            have HXv11 := Lib.hid (etr HXv10.out gn)
            have HOE := Lib.hid Hn.out.1
            clear gn Hn
            try dsimp only [Act.put]
            have e10 := HOE.out.cells.2 10 _ rfl
            have ez := HOE.out.cells.1
            have u3 := HOUv11.out.cells.2 3 _ rfl
            have uz := HOUv11.out.cells.1
            go_wp2_with (first | (refine wp_ldG 35 [.int .i64 c.T.id, .string c.T.name, .int .i64 c.T.len, .int .i64 c.T.speed, .int .i64 c.T.accel, .int .i64 c.T.service, .int .i64 c.T.emergency, .int .i64 c.T.delay, .int .i64 c.T.cons, .int .i64 c.T.rate, .int .i64 6, .int .i64 c.brake, .int .i64 c.next, .int .i64 c.E.min, .int .i64 c.E.max, .int .i64 c.E.speed, .int .i64 c.seq, .int .i64 c.en, .slice A c.p.length ca, .slice L c.k.length cl, .int .i64 c.peer, .int .i64 c.out, .int .i64 c.inn, .int .i64 c.heard, .bool c.known, .int .i64 c.since] rfl rfl rfl (HOBv11.out).cells Tryd.underlying35 szCab rfl ?_))
            refine (HD6.out _ HXv11.out HPL.out HKL.out).mono ?_
            rintro e w10 ⟨A3, c3, L3, d3, rfl, hb⟩
            clear e10 ez u3 uz qd
            have HOBv12 := Lib.hid (HOBv11.out.keep hb)
            have HOMv12 := Lib.hid (HOMv11.out.keep hb)
            have HOUv12 := Lib.hid (HOUv11.out.keep hb)
            have HXv12 := Lib.hid (etr HXv11.out hb)
            clear hb
            have hf3 : ∀ x : World, (Instr.field 35 (.agg #[.int .i64 c.T.id, .string c.T.name, .int .i64 c.T.len, .int .i64 c.T.speed, .int .i64 c.T.accel, .int .i64 c.T.service, .int .i64 c.T.emergency, .int .i64 c.T.delay, .int .i64 c.T.cons, .int .i64 c.T.rate, .int .i64 6, .int .i64 2, .int .i64 c.next, .int .i64 c.E.min, .int .i64 c.E.max, .int .i64 c.E.speed, .int .i64 c.seq, .int .i64 c.en, .slice A3 c.p.length c3, .slice L3 c.k.length d3, .int .i64 c.peer, .int .i64 c.out, .int .i64 c.inn, .int .i64 c.heard, .bool c.known, .int .i64 c.since]) 1).run Tryd.prog x = .ok (.int .i64 6) x := fun _ => by kernel_rfl
            go_wp2_with fail
            clear hf3
            go_loopg [9] 7 (fun g i wr => ∃ j : Nat, i = .int .i64 j ∧ 1 ≤ j ∧ j ≤ 8 ∧ g = 8 - j ∧ Hid (Ext w wr ∧ Own wr w.heap.size [.int .i64 c.T.id, .string c.T.name, .int .i64 c.T.len, .int .i64 c.T.speed, .int .i64 c.T.accel, .int .i64 c.T.service, .int .i64 c.T.emergency, .int .i64 c.T.delay, .int .i64 c.T.cons, .int .i64 c.T.rate, .int .i64 6, .int .i64 c.brake, .int .i64 c.next, .int .i64 c.E.min, .int .i64 c.E.max, .int .i64 c.E.speed, .int .i64 c.seq, .int .i64 c.en, .slice A c.p.length ca, .slice L c.k.length cl, .int .i64 c.peer, .int .i64 c.out, .int .i64 c.inn, .int .i64 c.heard, .bool c.known, .int .i64 c.since]))
            case atStart => exact ⟨1, rfl, by omega, by omega, rfl, HXv12.out, HOBv12.out⟩
            case round =>
              obtain ⟨j, rfl, hj1, hj8, hg, H⟩ := hrel
              have HG := Lib.hid hg
              have HXl := Lib.hid H.out.1
              have HBl := Lib.hid H.out.2
              clear hg H
              by_cases hlt : j ≤ 7
              · obtain ⟨ec, en, hcase, hev⟩ := HEV.out j hj1 hlt
                have HEC := Lib.hid hev
                have HCS := Lib.hid hcase
                clear hcase hev
                have qj : decide ((j : Int) ≤ 7) = true := decide_eq_true (by omega)
                go_wp2_with (first | (refine wp_ldN 35 [.int .i64 c.T.id, .string c.T.name, .int .i64 c.T.len, .int .i64 c.T.speed, .int .i64 c.T.accel, .int .i64 c.T.service, .int .i64 c.T.emergency, .int .i64 c.T.delay, .int .i64 c.T.cons, .int .i64 c.T.rate, .int .i64 6, .int .i64 c.brake, .int .i64 c.next, .int .i64 c.E.min, .int .i64 c.E.max, .int .i64 c.E.speed, .int .i64 c.seq, .int .i64 c.en, .slice A c.p.length ca, .slice L c.k.length cl, .int .i64 c.peer, .int .i64 c.out, .int .i64 c.inn, .int .i64 c.heard, .bool c.known, .int .i64 c.since] rfl rfl rfl (HBl.out).cells Tryd.underlying35 szCab rfl ?_))
                refine (HEC.out _ HXl.out HPL.out HKL.out).mono ?_
                rintro e w11 ⟨A3, c3, L3, d3, rfl, hb⟩
                have HOBv1 := Lib.hid (HBl.out.keep hb)
                have HXv1 := Lib.hid (etr HXl.out hb)
                clear hb
                go_upto_region 14 with (first | (refine wp_stN 35 [.int .i64 ec.T.id, .string ec.T.name, .int .i64 ec.T.len, .int .i64 ec.T.speed, .int .i64 ec.T.accel, .int .i64 ec.T.service, .int .i64 ec.T.emergency, .int .i64 ec.T.delay, .int .i64 ec.T.cons, .int .i64 ec.T.rate, .int .i64 ec.mode, .int .i64 ec.brake, .int .i64 ec.next, .int .i64 ec.E.min, .int .i64 ec.E.max, .int .i64 ec.E.speed, .int .i64 ec.seq, .int .i64 ec.en, .slice A3 ec.p.length c3, .slice L3 ec.k.length d3, .int .i64 ec.peer, .int .i64 ec.out, .int .i64 ec.inn, .int .i64 ec.heard, .bool ec.known, .int .i64 ec.since] [.int .i64 ec.T.id, .string ec.T.name, .int .i64 ec.T.len, .int .i64 ec.T.speed, .int .i64 ec.T.accel, .int .i64 ec.T.service, .int .i64 ec.T.emergency, .int .i64 ec.T.delay, .int .i64 ec.T.cons, .int .i64 ec.T.rate, .int .i64 ec.mode, .int .i64 ec.brake, .int .i64 ec.next, .int .i64 ec.E.min, .int .i64 ec.E.max, .int .i64 ec.E.speed, .int .i64 ec.seq, .int .i64 ec.en, .slice A3 ec.p.length c3, .slice L3 ec.k.length d3, .int .i64 ec.peer, .int .i64 ec.out, .int .i64 ec.inn, .int .i64 ec.heard, .bool ec.known, .int .i64 ec.since] rfl rfl rfl (Own.new (w := w11) (cs := #[.int .i64 0, .string ⟨#[]⟩, .int .i64 0, .int .i64 0, .int .i64 0, .int .i64 0, .int .i64 0, .int .i64 0, .int .i64 0, .int .i64 0, .int .i64 0, .int .i64 0, .int .i64 0, .int .i64 0, .int .i64 0, .int .i64 0, .int .i64 0, .int .i64 0, .slice none 0 0, .slice none 0 0, .int .i64 0, .int .i64 0, .int .i64 0, .int .i64 0, .bool false, .int .i64 0]) (t := 35) rfl) rfl szCab rfl (by show (0 + 26 : Nat) ≤ 26; decide) rfl ?_; intro w12 Hn))
                have gn : Ext w11 w12 := eonly (eal (Ext.refl _) _) Hn.out.2 (Nat.le_refl _)
                have HOBv2 := Lib.hid (HOBv1.out.keep gn)
                have HXv2 := Lib.hid (etr HXv1.out gn)
                have HOE := Lib.hid Hn.out.1
                clear gn Hn
                try dsimp only [Act.put]
                have b15 := HOBv2.out.cells.2 15 _ rfl
                have bz := HOBv2.out.cells.1
                have e10 := HOE.out.cells.2 10 _ rfl
                have ez := HOE.out.cells.1
                rcases HCS.out with ⟨q1, q2, q3, q4⟩ | ⟨q1, q3, q4⟩ | ⟨q1, q2, q3, q4⟩
                all_goals
                  go_wp2
                  go_roundg (8 - (j + 1))
                  case measure => have := HG.out; omega
                  case rel => exact ⟨j + 1, by go_num, by omega, by omega, rfl, HXv2.out, HOBv2.out⟩
              · have qj : decide ((j : Int) ≤ 7) = false := decide_eq_false (by omega)
                go_wp2_with fail
                refine (HAL.out _ (HT.out.keep HXl.out)).mono ?_
                rintro e w3 ⟨rfl, hb⟩
                go_wp2
                go_ret
                exact ⟨rfl, etr HXl.out hb⟩
end Go.Proofs.YtbgmknkmfhpgeaaDoor
