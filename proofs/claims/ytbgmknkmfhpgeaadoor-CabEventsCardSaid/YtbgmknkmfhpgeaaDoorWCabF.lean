/- Walks: equal units and messages. -/
import Derived.Test.YtbgmknkmfhpgeaaDoorWCabD
set_option linter.unusedVariables false
set_option linter.unusedSimpArgs false
set_option maxRecDepth 100000
namespace Go.Proofs.YtbgmknkmfhpgeaaDoor
open Go.ChangeShapes Go.WideShapes Go.ChangeAt Go.RowKit
open Sg
set_option maxHeartbeats 4000000 in
theorem samea_any (sq en : Int) (p : List Sgm) (k : List Lnk) (A L B K : Option Addr) (ca cl cb ck : Nat) (w : World) (hr : Rd w A 4 Sgc p) (hr2 : Rd w L 2 Lkc k) (hs : Rd w B 4 Sgc p) (hs2 : Rd w K 2 Lkc k) (hp : p.length ≤ 1000000) (hk : k.length ≤ 1000000) :
    Calls Tryd.prog 18 #[.agg #[.int .i64 sq, .int .i64 en, .slice A p.length ca, .slice L k.length cl], .agg #[.int .i64 sq, .int .i64 en, .slice B p.length cb, .slice K k.length ck]] w fun e w' => e = .returned (.bool true) ∧ Below w.heap.size w w' := by
  have HP := Lib.hid hr
  have HK := Lib.hid hr2
  have HP2 := Lib.hid hs
  have HK2 := Lib.hid hs2
  clear hr hr2 hs hs2
  have e1 : (sq != sq) = false := by simp
  have e2 : (en != en) = false := by simp
  have e3 : ((k.length : Int) != (k.length : Int)) = false := by simp
  have hpm : p.length ≤ maxLen := by unfold maxLen; omega
  have hsl : sameL p p = true := sameL_true.2 rfl
  obtain ⟨w1, hw⟩ : ∃ w1, w1 = ((w.alloc (.cells #[.int .i64 sq, .int .i64 en, .slice A p.length ca, .slice L k.length cl] 29)).alloc (.cells #[.int .i64 sq, .int .i64 en, .slice B p.length cb, .slice K k.length ck] 29)) := ⟨_, rfl⟩
  have HE0 : Hid (Ext w w1) := by rw [hw]; exact eal (eal (Ext.refl w) _) _
  have HB : Hid (Own w1 (w.heap.size) [.int .i64 sq, .int .i64 en, .slice A p.length ca, .slice L k.length cl]) := by rw [hw]; exact (Own.new (w := w) (cs := #[.int .i64 sq, .int .i64 en, .slice A p.length ca, .slice L k.length cl]) (t := 29) (by simp)).alloc _
  have HR : Hid (Own w1 (w.heap.size + 1) [.int .i64 sq, .int .i64 en, .slice B p.length cb, .slice K k.length ck]) := by rw [hw]; exact Own.new (w := (w.alloc (.cells #[.int .i64 sq, .int .i64 en, .slice A p.length ca, .slice L k.length cl] 29))) (cs := #[.int .i64 sq, .int .i64 en, .slice B p.length cb, .slice K k.length ck]) (t := 29) (by simp)
  have HSC : Hid (∀ x, Ext w x → Calls Tryd.prog 47 #[.slice A p.length ca, .slice B p.length cb] x fun e w' => e = .returned (.bool true) ∧ Below x.heap.size x w') := fun x hx => by rw [← hsl]; exact same_any A B p p ca cb x hpm hpm (HP.out.keep hx) (HP2.out.keep hx)
  clear hpm hsl
  go_enter Tryd.func18, Tryd.ntmps18
  go_upto_region 1 with (fail)
  rw [← hw]
  clear hw
  have a0 := HB.out.cells.2 0 _ rfl
  have a1 := HB.out.cells.2 1 _ rfl
  have a2 := HB.out.cells.2 2 _ rfl
  have a3 := HB.out.cells.2 3 _ rfl
  have az := HB.out.cells.1
  have b0 := HR.out.cells.2 0 _ rfl
  have b1 := HR.out.cells.2 1 _ rfl
  have b2 := HR.out.cells.2 2 _ rfl
  have b3 := HR.out.cells.2 3 _ rfl
  have bz := HR.out.cells.1
  go_wp2_with fail
  refine (HSC.out _ HE0.out).mono ?_
  rintro e w2 ⟨rfl, hb⟩
  clear a0 a1 a2 a3 az
  clear b0 b1 b2 b3 bz
  have HX2 := Lib.hid (etr HE0.out hb)
  have HB2 := Lib.hid (HB.out.keep hb)
  have HR2 := Lib.hid (HR.out.keep hb)
  clear hb
  have a0 := HB2.out.cells.2 0 _ rfl
  have a1 := HB2.out.cells.2 1 _ rfl
  have a2 := HB2.out.cells.2 2 _ rfl
  have a3 := HB2.out.cells.2 3 _ rfl
  have az := HB2.out.cells.1
  have b0 := HR2.out.cells.2 0 _ rfl
  have b1 := HR2.out.cells.2 1 _ rfl
  have b2 := HR2.out.cells.2 2 _ rfl
  have b3 := HR2.out.cells.2 3 _ rfl
  have bz := HR2.out.cells.1
  go_wp2_with fail
  clear a0 a1 a2 a3 az
  clear b0 b1 b2 b3 bz
  go_loopg [38] k.length (fun g i wr => ∃ j : Nat, i = .int .i64 j ∧ j ≤ k.length ∧ g = k.length - j ∧ Hid (Ext w2 wr))
  case atStart => exact ⟨0, rfl, by omega, rfl, Ext.refl _⟩
  case round =>
    obtain ⟨j, rfl, hj, hg, H⟩ := hrel
    have HG := Lib.hid hg
    clear hg
    by_cases hlt : j < k.length
    · obtain ⟨b, off, s, rfl, hs, hbs, c0, c1⟩ := rd_lnk HK.out (etr HX2.out H.out) hlt
      obtain ⟨b', off', s', rfl, hs', hbs', d0, d1⟩ := rd_lnk HK2.out (etr HX2.out H.out) hlt
      obtain rfl : s' = s := by rw [hs] at hs'; cases hs'; rfl
      have HB3 := Lib.hid (HB2.out.keep H.out)
      have HR3 := Lib.hid (HR2.out.keep H.out)
      clear hs hs'
      have a0 := HB3.out.cells.2 0 _ rfl
      have a1 := HB3.out.cells.2 1 _ rfl
      have a2 := HB3.out.cells.2 2 _ rfl
      have a3 := HB3.out.cells.2 3 _ rfl
      have az := HB3.out.cells.1
      have b0 := HR3.out.cells.2 0 _ rfl
      have b1 := HR3.out.cells.2 1 _ rfl
      have b2 := HR3.out.cells.2 2 _ rfl
      have b3 := HR3.out.cells.2 3 _ rfl
      have bz := HR3.out.cells.1
      go_wp2
      refine wp_region_after (by kernel_rfl) (by kernel_rfl) ?_
      repeat (first | go_big_quiet_step (fail))
      refine wpQuiet_nil ?_
      rintro _ ⟨y, rfl⟩
      go_wp2
      go_roundg (k.length - (j + 1))
      case measure => have := HG.out; omega
      case rel => exact ⟨j + 1, by go_num, by omega, rfl, etr H.out y.is⟩
    · go_wp2
      go_ret
      exact ⟨rfl, etr HX2.out H.out⟩
set_option maxHeartbeats 8000000 in
theorem samec_any (c : Cb) (A L B K : Option Addr) (ca cl cb ck : Nat) (w : World) (hr : Rd w A 4 Sgc c.p) (hr2 : Rd w L 2 Lkc c.k) (hs : Rd w B 4 Sgc c.p) (hs2 : Rd w K 2 Lkc c.k) (hp : c.p.length ≤ 1000000) (hk : c.k.length ≤ 1000000) :
    Calls Tryd.prog 14 #[.agg #[.int .i64 c.T.id, .string c.T.name, .int .i64 c.T.len, .int .i64 c.T.speed, .int .i64 c.T.accel, .int .i64 c.T.service, .int .i64 c.T.emergency, .int .i64 c.T.delay, .int .i64 c.T.cons, .int .i64 c.T.rate, .int .i64 c.mode, .int .i64 c.brake, .int .i64 c.next, .int .i64 c.E.min, .int .i64 c.E.max, .int .i64 c.E.speed, .int .i64 c.seq, .int .i64 c.en, .slice A c.p.length ca, .slice L c.k.length cl, .int .i64 c.peer, .int .i64 c.out, .int .i64 c.inn, .int .i64 c.heard, .bool c.known, .int .i64 c.since], .agg #[.int .i64 c.T.id, .string c.T.name, .int .i64 c.T.len, .int .i64 c.T.speed, .int .i64 c.T.accel, .int .i64 c.T.service, .int .i64 c.T.emergency, .int .i64 c.T.delay, .int .i64 c.T.cons, .int .i64 c.T.rate, .int .i64 c.mode, .int .i64 c.brake, .int .i64 c.next, .int .i64 c.E.min, .int .i64 c.E.max, .int .i64 c.E.speed, .int .i64 c.seq, .int .i64 c.en, .slice B c.p.length cb, .slice K c.k.length ck, .int .i64 c.peer, .int .i64 c.out, .int .i64 c.inn, .int .i64 c.heard, .bool c.known, .int .i64 c.since]] w fun e w' => e = .returned (.bool true) ∧ Below w.heap.size w w' := by
  have HSA : Hid (∀ x, Ext w x → Calls Tryd.prog 18 #[.agg #[.int .i64 c.seq, .int .i64 c.en, .slice A c.p.length ca, .slice L c.k.length cl], .agg #[.int .i64 c.seq, .int .i64 c.en, .slice B c.p.length cb, .slice K c.k.length ck]] x fun e w' => e = .returned (.bool true) ∧ Below x.heap.size x w') := fun x hx =>
    samea_any c.seq c.en c.p c.k A L B K ca cl cb ck x (hr.keep hx) (hr2.keep hx) (hs.keep hx) (hs2.keep hx) hp hk
  clear hr hr2 hs hs2
  obtain ⟨w1, hw⟩ : ∃ w1, w1 = ((w.alloc (.cells #[.int .i64 c.T.id, .string c.T.name, .int .i64 c.T.len, .int .i64 c.T.speed, .int .i64 c.T.accel, .int .i64 c.T.service, .int .i64 c.T.emergency, .int .i64 c.T.delay, .int .i64 c.T.cons, .int .i64 c.T.rate, .int .i64 c.mode, .int .i64 c.brake, .int .i64 c.next, .int .i64 c.E.min, .int .i64 c.E.max, .int .i64 c.E.speed, .int .i64 c.seq, .int .i64 c.en, .slice A c.p.length ca, .slice L c.k.length cl, .int .i64 c.peer, .int .i64 c.out, .int .i64 c.inn, .int .i64 c.heard, .bool c.known, .int .i64 c.since] 35)).alloc (.cells #[.int .i64 c.T.id, .string c.T.name, .int .i64 c.T.len, .int .i64 c.T.speed, .int .i64 c.T.accel, .int .i64 c.T.service, .int .i64 c.T.emergency, .int .i64 c.T.delay, .int .i64 c.T.cons, .int .i64 c.T.rate, .int .i64 c.mode, .int .i64 c.brake, .int .i64 c.next, .int .i64 c.E.min, .int .i64 c.E.max, .int .i64 c.E.speed, .int .i64 c.seq, .int .i64 c.en, .slice B c.p.length cb, .slice K c.k.length ck, .int .i64 c.peer, .int .i64 c.out, .int .i64 c.inn, .int .i64 c.heard, .bool c.known, .int .i64 c.since] 35)) := ⟨_, rfl⟩
  have HE0 : Hid (Ext w w1) := by rw [hw]; exact eal (eal (Ext.refl w) _) _
  have HB : Hid (Own w1 (w.heap.size) [.int .i64 c.T.id, .string c.T.name, .int .i64 c.T.len, .int .i64 c.T.speed, .int .i64 c.T.accel, .int .i64 c.T.service, .int .i64 c.T.emergency, .int .i64 c.T.delay, .int .i64 c.T.cons, .int .i64 c.T.rate, .int .i64 c.mode, .int .i64 c.brake, .int .i64 c.next, .int .i64 c.E.min, .int .i64 c.E.max, .int .i64 c.E.speed, .int .i64 c.seq, .int .i64 c.en, .slice A c.p.length ca, .slice L c.k.length cl, .int .i64 c.peer, .int .i64 c.out, .int .i64 c.inn, .int .i64 c.heard, .bool c.known, .int .i64 c.since]) := by rw [hw]; exact (Own.new (w := w) (cs := #[.int .i64 c.T.id, .string c.T.name, .int .i64 c.T.len, .int .i64 c.T.speed, .int .i64 c.T.accel, .int .i64 c.T.service, .int .i64 c.T.emergency, .int .i64 c.T.delay, .int .i64 c.T.cons, .int .i64 c.T.rate, .int .i64 c.mode, .int .i64 c.brake, .int .i64 c.next, .int .i64 c.E.min, .int .i64 c.E.max, .int .i64 c.E.speed, .int .i64 c.seq, .int .i64 c.en, .slice A c.p.length ca, .slice L c.k.length cl, .int .i64 c.peer, .int .i64 c.out, .int .i64 c.inn, .int .i64 c.heard, .bool c.known, .int .i64 c.since]) (t := 35) (by simp)).alloc _
  have HR : Hid (Own w1 (w.heap.size + 1) [.int .i64 c.T.id, .string c.T.name, .int .i64 c.T.len, .int .i64 c.T.speed, .int .i64 c.T.accel, .int .i64 c.T.service, .int .i64 c.T.emergency, .int .i64 c.T.delay, .int .i64 c.T.cons, .int .i64 c.T.rate, .int .i64 c.mode, .int .i64 c.brake, .int .i64 c.next, .int .i64 c.E.min, .int .i64 c.E.max, .int .i64 c.E.speed, .int .i64 c.seq, .int .i64 c.en, .slice B c.p.length cb, .slice K c.k.length ck, .int .i64 c.peer, .int .i64 c.out, .int .i64 c.inn, .int .i64 c.heard, .bool c.known, .int .i64 c.since]) := by rw [hw]; exact Own.new (w := (w.alloc (.cells #[.int .i64 c.T.id, .string c.T.name, .int .i64 c.T.len, .int .i64 c.T.speed, .int .i64 c.T.accel, .int .i64 c.T.service, .int .i64 c.T.emergency, .int .i64 c.T.delay, .int .i64 c.T.cons, .int .i64 c.T.rate, .int .i64 c.mode, .int .i64 c.brake, .int .i64 c.next, .int .i64 c.E.min, .int .i64 c.E.max, .int .i64 c.E.speed, .int .i64 c.seq, .int .i64 c.en, .slice A c.p.length ca, .slice L c.k.length cl, .int .i64 c.peer, .int .i64 c.out, .int .i64 c.inn, .int .i64 c.heard, .bool c.known, .int .i64 c.since] 35))) (cs := #[.int .i64 c.T.id, .string c.T.name, .int .i64 c.T.len, .int .i64 c.T.speed, .int .i64 c.T.accel, .int .i64 c.T.service, .int .i64 c.T.emergency, .int .i64 c.T.delay, .int .i64 c.T.cons, .int .i64 c.T.rate, .int .i64 c.mode, .int .i64 c.brake, .int .i64 c.next, .int .i64 c.E.min, .int .i64 c.E.max, .int .i64 c.E.speed, .int .i64 c.seq, .int .i64 c.en, .slice B c.p.length cb, .slice K c.k.length ck, .int .i64 c.peer, .int .i64 c.out, .int .i64 c.inn, .int .i64 c.heard, .bool c.known, .int .i64 c.since]) (t := 35) (by simp)
  go_enter Tryd.func14, Tryd.ntmps14
  go_upto_region 1 with (fail)
  rw [← hw]
  clear hw
  have a0 := HB.out.cells.2 0 _ rfl
  have a1 := HB.out.cells.2 1 _ rfl
  have a2 := HB.out.cells.2 2 _ rfl
  have a3 := HB.out.cells.2 3 _ rfl
  have a4 := HB.out.cells.2 4 _ rfl
  have a5 := HB.out.cells.2 5 _ rfl
  have a6 := HB.out.cells.2 6 _ rfl
  have a7 := HB.out.cells.2 7 _ rfl
  have a8 := HB.out.cells.2 8 _ rfl
  have a9 := HB.out.cells.2 9 _ rfl
  have a10 := HB.out.cells.2 10 _ rfl
  have a11 := HB.out.cells.2 11 _ rfl
  have a12 := HB.out.cells.2 12 _ rfl
  have a13 := HB.out.cells.2 13 _ rfl
  have a14 := HB.out.cells.2 14 _ rfl
  have a15 := HB.out.cells.2 15 _ rfl
  have a16 := HB.out.cells.2 16 _ rfl
  have a17 := HB.out.cells.2 17 _ rfl
  have a18 := HB.out.cells.2 18 _ rfl
  have a19 := HB.out.cells.2 19 _ rfl
  have a20 := HB.out.cells.2 20 _ rfl
  have a21 := HB.out.cells.2 21 _ rfl
  have a22 := HB.out.cells.2 22 _ rfl
  have a23 := HB.out.cells.2 23 _ rfl
  have a24 := HB.out.cells.2 24 _ rfl
  have a25 := HB.out.cells.2 25 _ rfl
  have az := HB.out.cells.1
  have b0 := HR.out.cells.2 0 _ rfl
  have b1 := HR.out.cells.2 1 _ rfl
  have b2 := HR.out.cells.2 2 _ rfl
  have b3 := HR.out.cells.2 3 _ rfl
  have b4 := HR.out.cells.2 4 _ rfl
  have b5 := HR.out.cells.2 5 _ rfl
  have b6 := HR.out.cells.2 6 _ rfl
  have b7 := HR.out.cells.2 7 _ rfl
  have b8 := HR.out.cells.2 8 _ rfl
  have b9 := HR.out.cells.2 9 _ rfl
  have b10 := HR.out.cells.2 10 _ rfl
  have b11 := HR.out.cells.2 11 _ rfl
  have b12 := HR.out.cells.2 12 _ rfl
  have b13 := HR.out.cells.2 13 _ rfl
  have b14 := HR.out.cells.2 14 _ rfl
  have b15 := HR.out.cells.2 15 _ rfl
  have b16 := HR.out.cells.2 16 _ rfl
  have b17 := HR.out.cells.2 17 _ rfl
  have b18 := HR.out.cells.2 18 _ rfl
  have b19 := HR.out.cells.2 19 _ rfl
  have b20 := HR.out.cells.2 20 _ rfl
  have b21 := HR.out.cells.2 21 _ rfl
  have b22 := HR.out.cells.2 22 _ rfl
  have b23 := HR.out.cells.2 23 _ rfl
  have b24 := HR.out.cells.2 24 _ rfl
  have b25 := HR.out.cells.2 25 _ rfl
  have bz := HR.out.cells.1
  go_wp2_with fail
  refine (HSA.out _ HE0.out).mono ?_
  rintro e w2 ⟨rfl, hb⟩
  clear a0 a1 a2 a3 a4 a5 a6 a7 a8 a9 a10 a11 a12 a13 a14 a15 a16 a17 a18 a19 a20 a21 a22 a23 a24 a25 az
  clear b0 b1 b2 b3 b4 b5 b6 b7 b8 b9 b10 b11 b12 b13 b14 b15 b16 b17 b18 b19 b20 b21 b22 b23 b24 b25 bz
  go_wp2
  go_ret
  exact ⟨rfl, etr HE0.out hb⟩
set_option maxHeartbeats 8000000 in
theorem samem_any (m : Ms) (A L B K : Option Addr) (ca cl cb ck : Nat) (w : World) (hr : Rd w A 4 Sgc m.p) (hr2 : Rd w L 2 Lkc m.k) (hs : Rd w B 4 Sgc m.p) (hs2 : Rd w K 2 Lkc m.k) (hp : m.p.length ≤ 1000000) (hk : m.k.length ≤ 1000000) :
    Calls Tryd.prog 26 #[.agg #[.int .i64 m.kind, .int .i64 m.frm, .int .i64 m.to_, .int .i64 m.seq, .int .i64 m.time, .int .i64 m.aseq, .int .i64 m.aen, .slice A m.p.length ca, .slice L m.k.length cl, .int .i64 m.rmin, .int .i64 m.rspeed, .int .i64 m.rmode, .int .i64 m.racc, .bool m.rwhole], .agg #[.int .i64 m.kind, .int .i64 m.frm, .int .i64 m.to_, .int .i64 m.seq, .int .i64 m.time, .int .i64 m.aseq, .int .i64 m.aen, .slice B m.p.length cb, .slice K m.k.length ck, .int .i64 m.rmin, .int .i64 m.rspeed, .int .i64 m.rmode, .int .i64 m.racc, .bool m.rwhole]] w fun e w' => e = .returned (.bool true) ∧ Below w.heap.size w w' := by
  have HSA : Hid (∀ x, Ext w x → Calls Tryd.prog 18 #[.agg #[.int .i64 m.aseq, .int .i64 m.aen, .slice A m.p.length ca, .slice L m.k.length cl], .agg #[.int .i64 m.aseq, .int .i64 m.aen, .slice B m.p.length cb, .slice K m.k.length ck]] x fun e w' => e = .returned (.bool true) ∧ Below x.heap.size x w') := fun x hx =>
    samea_any m.aseq m.aen m.p m.k A L B K ca cl cb ck x (hr.keep hx) (hr2.keep hx) (hs.keep hx) (hs2.keep hx) hp hk
  clear hr hr2 hs hs2
  obtain ⟨w1, hw⟩ : ∃ w1, w1 = ((w.alloc (.cells #[.int .i64 m.kind, .int .i64 m.frm, .int .i64 m.to_, .int .i64 m.seq, .int .i64 m.time, .int .i64 m.aseq, .int .i64 m.aen, .slice A m.p.length ca, .slice L m.k.length cl, .int .i64 m.rmin, .int .i64 m.rspeed, .int .i64 m.rmode, .int .i64 m.racc, .bool m.rwhole] 39)).alloc (.cells #[.int .i64 m.kind, .int .i64 m.frm, .int .i64 m.to_, .int .i64 m.seq, .int .i64 m.time, .int .i64 m.aseq, .int .i64 m.aen, .slice B m.p.length cb, .slice K m.k.length ck, .int .i64 m.rmin, .int .i64 m.rspeed, .int .i64 m.rmode, .int .i64 m.racc, .bool m.rwhole] 39)) := ⟨_, rfl⟩
  have HE0 : Hid (Ext w w1) := by rw [hw]; exact eal (eal (Ext.refl w) _) _
  have HB : Hid (Own w1 (w.heap.size) [.int .i64 m.kind, .int .i64 m.frm, .int .i64 m.to_, .int .i64 m.seq, .int .i64 m.time, .int .i64 m.aseq, .int .i64 m.aen, .slice A m.p.length ca, .slice L m.k.length cl, .int .i64 m.rmin, .int .i64 m.rspeed, .int .i64 m.rmode, .int .i64 m.racc, .bool m.rwhole]) := by rw [hw]; exact (Own.new (w := w) (cs := #[.int .i64 m.kind, .int .i64 m.frm, .int .i64 m.to_, .int .i64 m.seq, .int .i64 m.time, .int .i64 m.aseq, .int .i64 m.aen, .slice A m.p.length ca, .slice L m.k.length cl, .int .i64 m.rmin, .int .i64 m.rspeed, .int .i64 m.rmode, .int .i64 m.racc, .bool m.rwhole]) (t := 39) (by simp)).alloc _
  have HR : Hid (Own w1 (w.heap.size + 1) [.int .i64 m.kind, .int .i64 m.frm, .int .i64 m.to_, .int .i64 m.seq, .int .i64 m.time, .int .i64 m.aseq, .int .i64 m.aen, .slice B m.p.length cb, .slice K m.k.length ck, .int .i64 m.rmin, .int .i64 m.rspeed, .int .i64 m.rmode, .int .i64 m.racc, .bool m.rwhole]) := by rw [hw]; exact Own.new (w := (w.alloc (.cells #[.int .i64 m.kind, .int .i64 m.frm, .int .i64 m.to_, .int .i64 m.seq, .int .i64 m.time, .int .i64 m.aseq, .int .i64 m.aen, .slice A m.p.length ca, .slice L m.k.length cl, .int .i64 m.rmin, .int .i64 m.rspeed, .int .i64 m.rmode, .int .i64 m.racc, .bool m.rwhole] 39))) (cs := #[.int .i64 m.kind, .int .i64 m.frm, .int .i64 m.to_, .int .i64 m.seq, .int .i64 m.time, .int .i64 m.aseq, .int .i64 m.aen, .slice B m.p.length cb, .slice K m.k.length ck, .int .i64 m.rmin, .int .i64 m.rspeed, .int .i64 m.rmode, .int .i64 m.racc, .bool m.rwhole]) (t := 39) (by simp)
  go_enter Tryd.func26, Tryd.ntmps26
  go_upto_region 1 with (fail)
  rw [← hw]
  clear hw
  have a0 := HB.out.cells.2 0 _ rfl
  have a1 := HB.out.cells.2 1 _ rfl
  have a2 := HB.out.cells.2 2 _ rfl
  have a3 := HB.out.cells.2 3 _ rfl
  have a4 := HB.out.cells.2 4 _ rfl
  have a5 := HB.out.cells.2 5 _ rfl
  have a6 := HB.out.cells.2 6 _ rfl
  have a7 := HB.out.cells.2 7 _ rfl
  have a8 := HB.out.cells.2 8 _ rfl
  have a9 := HB.out.cells.2 9 _ rfl
  have a10 := HB.out.cells.2 10 _ rfl
  have a11 := HB.out.cells.2 11 _ rfl
  have a12 := HB.out.cells.2 12 _ rfl
  have a13 := HB.out.cells.2 13 _ rfl
  have az := HB.out.cells.1
  have b0 := HR.out.cells.2 0 _ rfl
  have b1 := HR.out.cells.2 1 _ rfl
  have b2 := HR.out.cells.2 2 _ rfl
  have b3 := HR.out.cells.2 3 _ rfl
  have b4 := HR.out.cells.2 4 _ rfl
  have b5 := HR.out.cells.2 5 _ rfl
  have b6 := HR.out.cells.2 6 _ rfl
  have b7 := HR.out.cells.2 7 _ rfl
  have b8 := HR.out.cells.2 8 _ rfl
  have b9 := HR.out.cells.2 9 _ rfl
  have b10 := HR.out.cells.2 10 _ rfl
  have b11 := HR.out.cells.2 11 _ rfl
  have b12 := HR.out.cells.2 12 _ rfl
  have b13 := HR.out.cells.2 13 _ rfl
  have bz := HR.out.cells.1
  go_wp2_with fail
  refine (HSA.out _ HE0.out).mono ?_
  rintro e w2 ⟨rfl, hb⟩
  have HB2 := Lib.hid (HB.out.keep hb)
  have HR2 := Lib.hid (HR.out.keep hb)
  clear a0 a1 a2 a3 a4 a5 a6 a7 a8 a9 a10 a11 a12 a13 az
  clear b0 b1 b2 b3 b4 b5 b6 b7 b8 b9 b10 b11 b12 b13 bz
  have a0 := HB2.out.cells.2 0 _ rfl
  have a1 := HB2.out.cells.2 1 _ rfl
  have a2 := HB2.out.cells.2 2 _ rfl
  have a3 := HB2.out.cells.2 3 _ rfl
  have a4 := HB2.out.cells.2 4 _ rfl
  have a5 := HB2.out.cells.2 5 _ rfl
  have a6 := HB2.out.cells.2 6 _ rfl
  have a7 := HB2.out.cells.2 7 _ rfl
  have a8 := HB2.out.cells.2 8 _ rfl
  have a9 := HB2.out.cells.2 9 _ rfl
  have a10 := HB2.out.cells.2 10 _ rfl
  have a11 := HB2.out.cells.2 11 _ rfl
  have a12 := HB2.out.cells.2 12 _ rfl
  have a13 := HB2.out.cells.2 13 _ rfl
  have az := HB2.out.cells.1
  have b0 := HR2.out.cells.2 0 _ rfl
  have b1 := HR2.out.cells.2 1 _ rfl
  have b2 := HR2.out.cells.2 2 _ rfl
  have b3 := HR2.out.cells.2 3 _ rfl
  have b4 := HR2.out.cells.2 4 _ rfl
  have b5 := HR2.out.cells.2 5 _ rfl
  have b6 := HR2.out.cells.2 6 _ rfl
  have b7 := HR2.out.cells.2 7 _ rfl
  have b8 := HR2.out.cells.2 8 _ rfl
  have b9 := HR2.out.cells.2 9 _ rfl
  have b10 := HR2.out.cells.2 10 _ rfl
  have b11 := HR2.out.cells.2 11 _ rfl
  have b12 := HR2.out.cells.2 12 _ rfl
  have b13 := HR2.out.cells.2 13 _ rfl
  have bz := HR2.out.cells.1
  go_wp2
  go_ret
  exact ⟨rfl, etr HE0.out hb⟩
end Go.Proofs.YtbgmknkmfhpgeaaDoor
