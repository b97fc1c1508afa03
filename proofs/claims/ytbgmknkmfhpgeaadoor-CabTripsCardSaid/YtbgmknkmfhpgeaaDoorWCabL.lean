/- Walks: receiving a message. -/
import Derived.Test.YtbgmknkmfhpgeaaDoorWCabK
set_option linter.unusedVariables false
set_option linter.unusedSimpArgs false
set_option maxRecDepth 100000
namespace Go.Proofs.YtbgmknkmfhpgeaaDoor
open Go.ChangeShapes Go.WideShapes Go.ChangeAt Go.RowKit
open Sg
set_option maxHeartbeats 16000000 in
theorem rec_grant (c : Cb) (m : Ms) (A L B : Option Addr) (ca cl cb : Nat) (now : Int) (w : World) (hp : c.p.length ≤ 1000000) (hk : c.k.length ≤ 1000000) (hr : Rd w A 4 Sgc c.p) (hr2 : Rd w L 2 Lkc c.k) (it : I64 m.time) (inw : I64 now)
    (ht : Tabs w) (h2 : m.kind = 2) (hte : takE c m now = 0) (hm : nxV c.mode 1 = 2) (hn : c.next = 0) (hk0 : m.k = []) (hv : avalB m.aseq m.aen m.p m.k = true) (hsq : c.seq < m.aseq) (hB : SupB c.T c.E m.aen) (hsf : safeB c.T m.p c.E m.aen = true)
    (hmp : m.p.length ≤ 1000000) (hrm : Rd w B 4 Sgc m.p) :
    Calls Tryd.prog 12 #[.agg #[.int .i64 c.T.id, .string c.T.name, .int .i64 c.T.len, .int .i64 c.T.speed, .int .i64 c.T.accel, .int .i64 c.T.service, .int .i64 c.T.emergency, .int .i64 c.T.delay, .int .i64 c.T.cons, .int .i64 c.T.rate, .int .i64 c.mode, .int .i64 c.brake, .int .i64 c.next, .int .i64 c.E.min, .int .i64 c.E.max, .int .i64 c.E.speed, .int .i64 c.seq, .int .i64 c.en, .slice A c.p.length ca, .slice L c.k.length cl, .int .i64 c.peer, .int .i64 c.out, .int .i64 c.inn, .int .i64 c.heard, .bool c.known, .int .i64 c.since], .agg #[.int .i64 m.kind, .int .i64 m.frm, .int .i64 m.to_, .int .i64 m.seq, .int .i64 m.time, .int .i64 m.aseq, .int .i64 m.aen, .slice B m.p.length cb, .slice none 0 0, .int .i64 m.rmin, .int .i64 m.rspeed, .int .i64 m.rmode, .int .i64 m.racc, .bool m.rwhole], .int .i64 now] w fun e w' => CabRE w { c with next := 0, seq := m.aseq, en := m.aen, p := m.p, k := [], mode := 2, inn := m.seq, heard := now } 0 e w' := by
  have HP := Lib.hid hr
  have HK := Lib.hid hr2
  have HTC : Hid (∀ x, Calls Tryd.prog 34 #[.agg #[.int .i64 c.peer, .int .i64 c.out, .int .i64 c.inn, .int .i64 c.heard], .agg #[.int .i64 m.kind, .int .i64 m.frm, .int .i64 m.to_, .int .i64 m.seq, .int .i64 m.time, .int .i64 m.aseq, .int .i64 m.aen, .slice B m.p.length cb, .slice none 0 0, .int .i64 m.rmin, .int .i64 m.rspeed, .int .i64 m.rmode, .int .i64 m.racc, .bool m.rwhole], .int .i64 now] x fun e w' => ∃ i h : Int, e = .returned (.tuple #[.agg #[.int .i64 c.peer, .int .i64 c.out, .int .i64 i, .int .i64 h], .int .i64 0]) ∧ (i = m.seq ∧ h = now) ∧ Below x.heap.size x w') := fun x => by
    have := take_any c m B none cb 0 now x it inw
    rw [hk0] at this
    refine this.mono ?_
    rintro e w' ⟨i, h, rfl, h1, h2⟩
    rw [hte]
    exact ⟨i, h, rfl, h1 hte, h2⟩
  have HEC : Hid (∀ x, Calls Tryd.prog 35 #[.agg #[.int .i64 m.kind, .int .i64 m.frm, .int .i64 m.to_, .int .i64 m.seq, .int .i64 m.time, .int .i64 m.aseq, .int .i64 m.aen, .slice B m.p.length cb, .slice none 0 0, .int .i64 m.rmin, .int .i64 m.rspeed, .int .i64 m.rmode, .int .i64 m.racc, .bool m.rwhole]] x fun e w' => e = .returned (.iface 114 (.agg #[.int .i64 m.aseq, .int .i64 m.aen, .slice B m.p.length cb, .slice none 0 0, .bool false])) ∧ Below x.heap.size x w') := fun x => by
    have := effof_any m B none cb 0 x
    unfold effI at this
    rw [if_pos h2, hk0] at this
    exact this
  have HGC : Hid (∀ (si sh : Int) (A1 L1 : Option Addr) (c1 d1 : Nat) (x : World), Ext w x → Calls Tryd.prog 149 #[.agg #[.int .i64 m.aseq, .int .i64 m.aen, .slice B m.p.length cb, .slice none 0 0, .bool false], .agg #[.int .i64 c.T.id, .string c.T.name, .int .i64 c.T.len, .int .i64 c.T.speed, .int .i64 c.T.accel, .int .i64 c.T.service, .int .i64 c.T.emergency, .int .i64 c.T.delay, .int .i64 c.T.cons, .int .i64 c.T.rate, .int .i64 c.mode, .int .i64 c.brake, .int .i64 c.next, .int .i64 c.E.min, .int .i64 c.E.max, .int .i64 c.E.speed, .int .i64 c.seq, .int .i64 c.en, .slice A1 c.p.length c1, .slice L1 c.k.length d1, .int .i64 c.peer, .int .i64 c.out, .int .i64 si, .int .i64 sh, .bool c.known, .int .i64 c.since]] x fun e w' => CabRE x { c with next := 0, seq := m.aseq, en := m.aen, p := m.p, k := [], mode := 2, inn := si, heard := sh } 0 e w') := fun si sh A1 L1 c1 d1 x hx =>
    apgrant_ok { c with inn := si, heard := sh } m A1 L1 B c1 d1 cb x (ht.keep hx) hm hn hk0 hv hsq hB hsf hmp (hrm.keep hx)
  clear hr hr2 it inw ht h2 hte hm hn hk0 hv hsq hB hsf hmp hrm
  obtain ⟨w1, hw⟩ : ∃ w1, w1 = (((w.alloc (.cells #[.int .i64 c.T.id, .string c.T.name, .int .i64 c.T.len, .int .i64 c.T.speed, .int .i64 c.T.accel, .int .i64 c.T.service, .int .i64 c.T.emergency, .int .i64 c.T.delay, .int .i64 c.T.cons, .int .i64 c.T.rate, .int .i64 c.mode, .int .i64 c.brake, .int .i64 c.next, .int .i64 c.E.min, .int .i64 c.E.max, .int .i64 c.E.speed, .int .i64 c.seq, .int .i64 c.en, .slice A c.p.length ca, .slice L c.k.length cl, .int .i64 c.peer, .int .i64 c.out, .int .i64 c.inn, .int .i64 c.heard, .bool c.known, .int .i64 c.since] 35)).alloc (.cells #[.int .i64 m.kind, .int .i64 m.frm, .int .i64 m.to_, .int .i64 m.seq, .int .i64 m.time, .int .i64 m.aseq, .int .i64 m.aen, .slice B m.p.length cb, .slice none 0 0, .int .i64 m.rmin, .int .i64 m.rspeed, .int .i64 m.rmode, .int .i64 m.racc, .bool m.rwhole] 39)).alloc (.cells #[.int .i64 0, .string ⟨#[]⟩, .int .i64 0, .int .i64 0, .int .i64 0, .int .i64 0, .int .i64 0, .int .i64 0, .int .i64 0, .int .i64 0, .int .i64 0, .int .i64 0, .int .i64 0, .int .i64 0, .int .i64 0, .int .i64 0, .int .i64 0, .int .i64 0, .slice none 0 0, .slice none 0 0, .int .i64 0, .int .i64 0, .int .i64 0, .int .i64 0, .bool false, .int .i64 0] 35)) := ⟨_, rfl⟩
  have HE0 : Hid (Ext w w1) := by rw [hw]; exact eal (eal (eal (Ext.refl w) _) _) _
  have HC : Hid (Own w1 (w.heap.size) [.int .i64 c.T.id, .string c.T.name, .int .i64 c.T.len, .int .i64 c.T.speed, .int .i64 c.T.accel, .int .i64 c.T.service, .int .i64 c.T.emergency, .int .i64 c.T.delay, .int .i64 c.T.cons, .int .i64 c.T.rate, .int .i64 c.mode, .int .i64 c.brake, .int .i64 c.next, .int .i64 c.E.min, .int .i64 c.E.max, .int .i64 c.E.speed, .int .i64 c.seq, .int .i64 c.en, .slice A c.p.length ca, .slice L c.k.length cl, .int .i64 c.peer, .int .i64 c.out, .int .i64 c.inn, .int .i64 c.heard, .bool c.known, .int .i64 c.since]) := by rw [hw]; exact ((Own.new (w := w) (cs := #[.int .i64 c.T.id, .string c.T.name, .int .i64 c.T.len, .int .i64 c.T.speed, .int .i64 c.T.accel, .int .i64 c.T.service, .int .i64 c.T.emergency, .int .i64 c.T.delay, .int .i64 c.T.cons, .int .i64 c.T.rate, .int .i64 c.mode, .int .i64 c.brake, .int .i64 c.next, .int .i64 c.E.min, .int .i64 c.E.max, .int .i64 c.E.speed, .int .i64 c.seq, .int .i64 c.en, .slice A c.p.length ca, .slice L c.k.length cl, .int .i64 c.peer, .int .i64 c.out, .int .i64 c.inn, .int .i64 c.heard, .bool c.known, .int .i64 c.since]) (t := 35) (by simp)).alloc _).alloc _
  have HM : Hid (Own w1 (w.heap.size + 1) [.int .i64 m.kind, .int .i64 m.frm, .int .i64 m.to_, .int .i64 m.seq, .int .i64 m.time, .int .i64 m.aseq, .int .i64 m.aen, .slice B m.p.length cb, .slice none 0 0, .int .i64 m.rmin, .int .i64 m.rspeed, .int .i64 m.rmode, .int .i64 m.racc, .bool m.rwhole]) := by rw [hw]; exact (Own.new (w := (w.alloc (.cells #[.int .i64 c.T.id, .string c.T.name, .int .i64 c.T.len, .int .i64 c.T.speed, .int .i64 c.T.accel, .int .i64 c.T.service, .int .i64 c.T.emergency, .int .i64 c.T.delay, .int .i64 c.T.cons, .int .i64 c.T.rate, .int .i64 c.mode, .int .i64 c.brake, .int .i64 c.next, .int .i64 c.E.min, .int .i64 c.E.max, .int .i64 c.E.speed, .int .i64 c.seq, .int .i64 c.en, .slice A c.p.length ca, .slice L c.k.length cl, .int .i64 c.peer, .int .i64 c.out, .int .i64 c.inn, .int .i64 c.heard, .bool c.known, .int .i64 c.since] 35))) (cs := #[.int .i64 m.kind, .int .i64 m.frm, .int .i64 m.to_, .int .i64 m.seq, .int .i64 m.time, .int .i64 m.aseq, .int .i64 m.aen, .slice B m.p.length cb, .slice none 0 0, .int .i64 m.rmin, .int .i64 m.rspeed, .int .i64 m.rmode, .int .i64 m.racc, .bool m.rwhole]) (t := 39) (by simp)).alloc _
  have HR : Hid (Own w1 (w.heap.size + 1 + 1) [.int .i64 0, .string ⟨#[]⟩, .int .i64 0, .int .i64 0, .int .i64 0, .int .i64 0, .int .i64 0, .int .i64 0, .int .i64 0, .int .i64 0, .int .i64 0, .int .i64 0, .int .i64 0, .int .i64 0, .int .i64 0, .int .i64 0, .int .i64 0, .int .i64 0, .slice none 0 0, .slice none 0 0, .int .i64 0, .int .i64 0, .int .i64 0, .int .i64 0, .bool false, .int .i64 0]) := by rw [hw]; exact Own.new (w := ((w.alloc (.cells #[.int .i64 c.T.id, .string c.T.name, .int .i64 c.T.len, .int .i64 c.T.speed, .int .i64 c.T.accel, .int .i64 c.T.service, .int .i64 c.T.emergency, .int .i64 c.T.delay, .int .i64 c.T.cons, .int .i64 c.T.rate, .int .i64 c.mode, .int .i64 c.brake, .int .i64 c.next, .int .i64 c.E.min, .int .i64 c.E.max, .int .i64 c.E.speed, .int .i64 c.seq, .int .i64 c.en, .slice A c.p.length ca, .slice L c.k.length cl, .int .i64 c.peer, .int .i64 c.out, .int .i64 c.inn, .int .i64 c.heard, .bool c.known, .int .i64 c.since] 35)).alloc (.cells #[.int .i64 m.kind, .int .i64 m.frm, .int .i64 m.to_, .int .i64 m.seq, .int .i64 m.time, .int .i64 m.aseq, .int .i64 m.aen, .slice B m.p.length cb, .slice none 0 0, .int .i64 m.rmin, .int .i64 m.rspeed, .int .i64 m.rmode, .int .i64 m.racc, .bool m.rwhole] 39))) (cs := #[.int .i64 0, .string ⟨#[]⟩, .int .i64 0, .int .i64 0, .int .i64 0, .int .i64 0, .int .i64 0, .int .i64 0, .int .i64 0, .int .i64 0, .int .i64 0, .int .i64 0, .int .i64 0, .int .i64 0, .int .i64 0, .int .i64 0, .int .i64 0, .int .i64 0, .slice none 0 0, .slice none 0 0, .int .i64 0, .int .i64 0, .int .i64 0, .int .i64 0, .bool false, .int .i64 0]) (t := 35) (by simp)
  go_enter Tryd.func12, Tryd.ntmps12
  go_upto_region 1 with (fail)
  rw [← hw]
  clear hw
  go_wp2_with (first | (refine wp_ldN 35 [.int .i64 c.T.id, .string c.T.name, .int .i64 c.T.len, .int .i64 c.T.speed, .int .i64 c.T.accel, .int .i64 c.T.service, .int .i64 c.T.emergency, .int .i64 c.T.delay, .int .i64 c.T.cons, .int .i64 c.T.rate, .int .i64 c.mode, .int .i64 c.brake, .int .i64 c.next, .int .i64 c.E.min, .int .i64 c.E.max, .int .i64 c.E.speed, .int .i64 c.seq, .int .i64 c.en, .slice A c.p.length ca, .slice L c.k.length cl, .int .i64 c.peer, .int .i64 c.out, .int .i64 c.inn, .int .i64 c.heard, .bool c.known, .int .i64 c.since] rfl rfl rfl (HC.out).cells Tryd.underlying35 szCab rfl ?_))
  refine (fresh_any c A L ca cl _ hp hk (HP.out.keep HE0.out) (HK.out.keep HE0.out)).mono ?_
  rintro e w2 ⟨A1, c1, L1, d1, rfl, h1, h2, hb⟩
  have z1 := HR.out.1
  have z0 := HE0.out.size
  have HOCv1 := Lib.hid (HC.out.keep hb)
  have HOMv1 := Lib.hid (HM.out.keep hb)
  have HORv1 := Lib.hid (HR.out.keep hb)
  have HXv1 := Lib.hid (etr HE0.out hb)
  have HNAv1 := Lib.hid h1
  have HNLv1 := Lib.hid h2
  clear hb h1 h2
  go_upto_region 2 with (first | (refine wp_stN 35 [.int .i64 c.T.id, .string c.T.name, .int .i64 c.T.len, .int .i64 c.T.speed, .int .i64 c.T.accel, .int .i64 c.T.service, .int .i64 c.T.emergency, .int .i64 c.T.delay, .int .i64 c.T.cons, .int .i64 c.T.rate, .int .i64 c.mode, .int .i64 c.brake, .int .i64 c.next, .int .i64 c.E.min, .int .i64 c.E.max, .int .i64 c.E.speed, .int .i64 c.seq, .int .i64 c.en, .slice A1 c.p.length c1, .slice L1 c.k.length d1, .int .i64 c.peer, .int .i64 c.out, .int .i64 c.inn, .int .i64 c.heard, .bool c.known, .int .i64 c.since] [.int .i64 c.T.id, .string c.T.name, .int .i64 c.T.len, .int .i64 c.T.speed, .int .i64 c.T.accel, .int .i64 c.T.service, .int .i64 c.T.emergency, .int .i64 c.T.delay, .int .i64 c.T.cons, .int .i64 c.T.rate, .int .i64 c.mode, .int .i64 c.brake, .int .i64 c.next, .int .i64 c.E.min, .int .i64 c.E.max, .int .i64 c.E.speed, .int .i64 c.seq, .int .i64 c.en, .slice A1 c.p.length c1, .slice L1 c.k.length d1, .int .i64 c.peer, .int .i64 c.out, .int .i64 c.inn, .int .i64 c.heard, .bool c.known, .int .i64 c.since] rfl rfl rfl (HOCv1.out) rfl szCab rfl (by show (0 + 26 : Nat) ≤ 26; decide) rfl ?_; intro w3 H3))
  have HOCv2 := Lib.hid (H3.out.1)
  have HOMv2 := Lib.hid (HOMv1.out.only H3.out.2 (by omega))
  have HORv2 := Lib.hid (HORv1.out.only H3.out.2 (by omega))
  have HNAv2 := Lib.hid (HNAv1.out.only H3.out.2 (by omega))
  have HNLv2 := Lib.hid (HNLv1.out.only H3.out.2 (by omega))
  have HXv2 := Lib.hid (eonly HXv1.out H3.out.2 (by omega))
  clear H3
  go_wp2_with (first | (refine wp_ldN 31 [.int .i64 c.peer, .int .i64 c.out, .int .i64 c.inn, .int .i64 c.heard] rfl rfl rfl (HOCv2.out).cells Tryd.underlying31 szSes rfl ?_) | (refine wp_ldN 39 [.int .i64 m.kind, .int .i64 m.frm, .int .i64 m.to_, .int .i64 m.seq, .int .i64 m.time, .int .i64 m.aseq, .int .i64 m.aen, .slice B m.p.length cb, .slice none 0 0, .int .i64 m.rmin, .int .i64 m.rspeed, .int .i64 m.rmode, .int .i64 m.racc, .bool m.rwhole] rfl rfl rfl (HOMv2.out).cells Tryd.underlying39 szMsg rfl ?_))
  refine (HTC.out _).mono ?_
  rintro e w4 ⟨si, sh, rfl, hse, hb⟩
  have HSE := Lib.hid hse
  clear hse
  have HOCv3 := Lib.hid (HOCv2.out.keep hb)
  have HOMv3 := Lib.hid (HOMv2.out.keep hb)
  have HORv3 := Lib.hid (HORv2.out.keep hb)
  have HNAv3 := Lib.hid (HNAv2.out.keep hb)
  have HNLv3 := Lib.hid (HNLv2.out.keep hb)
  have HXv3 := Lib.hid (etr HXv2.out hb)
  clear hb
  go_upto_region 3 with (fail)
  obtain ⟨w5, hw5⟩ : ∃ x, x = w4.alloc (.cells #[.int .i64 c.peer, .int .i64 c.out, .int .i64 si, .int .i64 sh] 31) := ⟨_, rfl⟩
  have g5 : Ext w4 w5 := by rw [hw5]; exact eal (Ext.refl _) _
  have O5 : Own w5 w4.heap.size [.int .i64 c.peer, .int .i64 c.out, .int .i64 si, .int .i64 sh] := by rw [hw5]; exact Own.new rfl
  rw [← hw5]
  have zs := HORv3.out.1
  clear hw5
  have HOCv4 := Lib.hid (HOCv3.out.keep g5)
  have HOMv4 := Lib.hid (HOMv3.out.keep g5)
  have HORv4 := Lib.hid (HORv3.out.keep g5)
  have HNAv4 := Lib.hid (HNAv3.out.keep g5)
  have HNLv4 := Lib.hid (HNLv3.out.keep g5)
  have HXv4 := Lib.hid (etr HXv3.out g5)
  have HOS5 := Lib.hid O5
  clear O5 g5
  go_upto_region 6 with (first | (refine wp_ldN 31 [.int .i64 c.peer, .int .i64 c.out, .int .i64 si, .int .i64 sh] rfl rfl rfl (HOS5.out).cells Tryd.underlying31 szSes rfl ?_) | (refine wp_stN 31 [.int .i64 c.T.id, .string c.T.name, .int .i64 c.T.len, .int .i64 c.T.speed, .int .i64 c.T.accel, .int .i64 c.T.service, .int .i64 c.T.emergency, .int .i64 c.T.delay, .int .i64 c.T.cons, .int .i64 c.T.rate, .int .i64 c.mode, .int .i64 c.brake, .int .i64 c.next, .int .i64 c.E.min, .int .i64 c.E.max, .int .i64 c.E.speed, .int .i64 c.seq, .int .i64 c.en, .slice A1 c.p.length c1, .slice L1 c.k.length d1, .int .i64 c.peer, .int .i64 c.out, .int .i64 si, .int .i64 sh, .bool c.known, .int .i64 c.since] [.int .i64 c.peer, .int .i64 c.out, .int .i64 si, .int .i64 sh] rfl rfl rfl (HOCv4.out) rfl szSes rfl (by show (20 + 4 : Nat) ≤ 26; decide) rfl ?_; intro w6 H6))
  have HOCv5 := Lib.hid (H6.out.1)
  have HOMv5 := Lib.hid (HOMv4.out.only H6.out.2 (by omega))
  have HORv5 := Lib.hid (HORv4.out.only H6.out.2 (by omega))
  have HNAv5 := Lib.hid (HNAv4.out.only H6.out.2 (by omega))
  have HNLv5 := Lib.hid (HNLv4.out.only H6.out.2 (by omega))
  have HXv5 := Lib.hid (eonly HXv4.out H6.out.2 (by omega))
  clear H6
  have hm : ∀ x : World, (method 271 114 (.agg #[.int .i64 m.aseq, .int .i64 m.aen, .slice B m.p.length cb, .slice none 0 0, .bool false]) "signalling/cab.apply").run Tryd.prog x = .ok (149, .agg #[.int .i64 m.aseq, .int .i64 m.aen, .slice B m.p.length cb, .slice none 0 0, .bool false]) x := fun _ => by kernel_rfl
  refine wp_region_orders 8 rfl (by kernel_rfl) (fun wd hwd => ?_)
  have HOCv6 := Lib.hid (HOCv5.out.keep hwd)
  have HOMv6 := Lib.hid (HOMv5.out.keep hwd)
  have HORv6 := Lib.hid (HORv5.out.keep hwd)
  have HNAv6 := Lib.hid (HNAv5.out.keep hwd)
  have HNLv6 := Lib.hid (HNLv5.out.keep hwd)
  have HXv6 := Lib.hid (etr HXv5.out hwd)
  clear hwd
  dsimp only [Act.put]
  refine wpAny_go (rs := [0, 2]) (by kernel_rfl) (by simp) (AllO.cons rfl rfl (fun K hK => ?_) (AllO.cons rfl rfl (fun K hK => ?_) (AllO.nil)))
  · refine wpo_ldN 39 [.int .i64 m.kind, .int .i64 m.frm, .int .i64 m.to_, .int .i64 m.seq, .int .i64 m.time, .int .i64 m.aseq, .int .i64 m.aen, .slice B m.p.length cb, .slice none 0 0, .int .i64 m.rmin, .int .i64 m.rspeed, .int .i64 m.rmode, .int .i64 m.racc, .bool m.rwhole] rfl rfl (HOMv6.out).cells Tryd.underlying39 szMsg rfl ?_
    try (refine hK _ _ ?_; clear hK K)
    refine wpAny_go (rs := [1, 2]) (by kernel_rfl) (by simp) (AllO.cons rfl rfl (fun K hK => ?_) (AllO.cons rfl rfl (fun K hK => ?_) (AllO.nil)))
    · go_wp2_with fail
      refine (HEC.out _).mono ?_
      rintro e we ⟨rfl, hbe⟩
      have HOCv7 := Lib.hid (HOCv6.out.keep hbe)
      have HOMv7 := Lib.hid (HOMv6.out.keep hbe)
      have HORv7 := Lib.hid (HORv6.out.keep hbe)
      have HNAv7 := Lib.hid (HNAv6.out.keep hbe)
      have HNLv7 := Lib.hid (HNLv6.out.keep hbe)
      have HXv7 := Lib.hid (etr HXv6.out hbe)
      clear hbe
      go_wp2
      try (refine hK _ _ ?_; clear hK K)
      refine wpAny_go (rs := [2]) (by kernel_rfl) (by simp) (AllO.cons rfl rfl (fun K hK => ?_) (AllO.nil))
      refine wpo_ldN 35 [.int .i64 c.T.id, .string c.T.name, .int .i64 c.T.len, .int .i64 c.T.speed, .int .i64 c.T.accel, .int .i64 c.T.service, .int .i64 c.T.emergency, .int .i64 c.T.delay, .int .i64 c.T.cons, .int .i64 c.T.rate, .int .i64 c.mode, .int .i64 c.brake, .int .i64 c.next, .int .i64 c.E.min, .int .i64 c.E.max, .int .i64 c.E.speed, .int .i64 c.seq, .int .i64 c.en, .slice A1 c.p.length c1, .slice L1 c.k.length d1, .int .i64 c.peer, .int .i64 c.out, .int .i64 si, .int .i64 sh, .bool c.known, .int .i64 c.since] rfl rfl (HOCv7.out).cells Tryd.underlying35 szCab rfl ?_
      try (refine hK _ _ ?_; clear hK K)
      refine wpAny_go (rs := [3]) (by kernel_rfl) (by simp) (AllO.cons rfl rfl (fun K hK => ?_) (AllO.nil))
      go_wp2_with fail
      refine (HGC.out si sh A1 L1 c1 d1 _ HXv7.out).mono ?_
      rintro e w8 ⟨A2, c2, L2, d2, rfl, h1, h2, hb⟩
      have zr := HORv7.out.1
      have HOCv8 := Lib.hid (HOCv7.out.keep hb)
      have HOMv8 := Lib.hid (HOMv7.out.keep hb)
      have HORv8 := Lib.hid (HORv7.out.keep hb)
      have HNAv8 := Lib.hid (HNAv7.out.keep hb)
      have HNLv8 := Lib.hid (HNLv7.out.keep hb)
      have HXv8 := Lib.hid (etr HXv7.out hb)
      have HNPv8 := Lib.hid h1
      have HNQv8 := Lib.hid h2
      clear hb h1 h2
      go_wp2
      try (refine hK _ _ ?_; clear hK K)
      refine wpAny_go (rs := [4, 5]) (by kernel_rfl) (by simp) (AllO.cons rfl rfl (fun K hK => ?_) (AllO.cons rfl rfl (fun K hK => ?_) (AllO.nil)))
      · go_wp2
        try (refine hK _ _ ?_; clear hK K)
        refine wpAny_go (rs := [5]) (by kernel_rfl) (by simp) (AllO.cons rfl rfl (fun K hK => ?_) (AllO.nil))
        go_wp2
        try (refine hK _ _ ?_; clear hK K)
        refine wpAny_go (rs := [6]) (by kernel_rfl) (by simp) (AllO.cons rfl rfl (fun K hK => ?_) (AllO.nil))
        refine wpo_stN 35 [.int .i64 c.T.id, .string c.T.name, .int .i64 c.T.len, .int .i64 c.T.speed, .int .i64 c.T.accel, .int .i64 c.T.service, .int .i64 c.T.emergency, .int .i64 c.T.delay, .int .i64 c.T.cons, .int .i64 c.T.rate, .int .i64 2, .int .i64 c.brake, .int .i64 0, .int .i64 c.E.min, .int .i64 c.E.max, .int .i64 c.E.speed, .int .i64 m.aseq, .int .i64 m.aen, .slice A2 m.p.length c2, .slice L2 0 d2, .int .i64 c.peer, .int .i64 c.out, .int .i64 si, .int .i64 sh, .bool c.known, .int .i64 c.since] [.int .i64 c.T.id, .string c.T.name, .int .i64 c.T.len, .int .i64 c.T.speed, .int .i64 c.T.accel, .int .i64 c.T.service, .int .i64 c.T.emergency, .int .i64 c.T.delay, .int .i64 c.T.cons, .int .i64 c.T.rate, .int .i64 2, .int .i64 c.brake, .int .i64 0, .int .i64 c.E.min, .int .i64 c.E.max, .int .i64 c.E.speed, .int .i64 m.aseq, .int .i64 m.aen, .slice A2 m.p.length c2, .slice L2 0 d2, .int .i64 c.peer, .int .i64 c.out, .int .i64 si, .int .i64 sh, .bool c.known, .int .i64 c.since] rfl rfl (HORv8.out) rfl szCab rfl (by show (0 + 26 : Nat) ≤ 26; decide) rfl ?_; intro w9 H9
        try (refine hK _ _ ?_; clear hK K)
        refine wpAny_go (rs := [7]) (by kernel_rfl) (by simp) (AllO.cons rfl rfl (fun K hK => ?_) (AllO.nil))
        go_wp2
        try (refine hK _ _ ?_; clear hK K)
        refine wpAny_end (by kernel_rfl) ?_
        go_wp2
        refine bodyPost_ret (res_ct (by rfl) (by rfl) (by rfl) H9.out.1.cells Tryd.underlying35 szCab) rfl ?_
        obtain ⟨rfl, rfl⟩ := HSE.out
        exact ⟨A2, c2, L2, d2, rfl, (HNPv8.out.only H9.out.2 (by omega)).mono (by omega), (HNQv8.out.only H9.out.2 (by omega)).mono (by omega), eonly HXv8.out H9.out.2 (by omega)⟩
      · go_wp2
        try (refine hK _ _ ?_; clear hK K)
        refine wpAny_go (rs := [4]) (by kernel_rfl) (by simp) (AllO.cons rfl rfl (fun K hK => ?_) (AllO.nil))
        go_wp2
        try (refine hK _ _ ?_; clear hK K)
        refine wpAny_go (rs := [6]) (by kernel_rfl) (by simp) (AllO.cons rfl rfl (fun K hK => ?_) (AllO.nil))
        refine wpo_stN 35 [.int .i64 c.T.id, .string c.T.name, .int .i64 c.T.len, .int .i64 c.T.speed, .int .i64 c.T.accel, .int .i64 c.T.service, .int .i64 c.T.emergency, .int .i64 c.T.delay, .int .i64 c.T.cons, .int .i64 c.T.rate, .int .i64 2, .int .i64 c.brake, .int .i64 0, .int .i64 c.E.min, .int .i64 c.E.max, .int .i64 c.E.speed, .int .i64 m.aseq, .int .i64 m.aen, .slice A2 m.p.length c2, .slice L2 0 d2, .int .i64 c.peer, .int .i64 c.out, .int .i64 si, .int .i64 sh, .bool c.known, .int .i64 c.since] [.int .i64 c.T.id, .string c.T.name, .int .i64 c.T.len, .int .i64 c.T.speed, .int .i64 c.T.accel, .int .i64 c.T.service, .int .i64 c.T.emergency, .int .i64 c.T.delay, .int .i64 c.T.cons, .int .i64 c.T.rate, .int .i64 2, .int .i64 c.brake, .int .i64 0, .int .i64 c.E.min, .int .i64 c.E.max, .int .i64 c.E.speed, .int .i64 m.aseq, .int .i64 m.aen, .slice A2 m.p.length c2, .slice L2 0 d2, .int .i64 c.peer, .int .i64 c.out, .int .i64 si, .int .i64 sh, .bool c.known, .int .i64 c.since] rfl rfl (HORv8.out) rfl szCab rfl (by show (0 + 26 : Nat) ≤ 26; decide) rfl ?_; intro w9 H9
        try (refine hK _ _ ?_; clear hK K)
        refine wpAny_go (rs := [7]) (by kernel_rfl) (by simp) (AllO.cons rfl rfl (fun K hK => ?_) (AllO.nil))
        go_wp2
        try (refine hK _ _ ?_; clear hK K)
        refine wpAny_end (by kernel_rfl) ?_
        go_wp2
        refine bodyPost_ret (res_ct (by rfl) (by rfl) (by rfl) H9.out.1.cells Tryd.underlying35 szCab) rfl ?_
        obtain ⟨rfl, rfl⟩ := HSE.out
        exact ⟨A2, c2, L2, d2, rfl, (HNPv8.out.only H9.out.2 (by omega)).mono (by omega), (HNQv8.out.only H9.out.2 (by omega)).mono (by omega), eonly HXv8.out H9.out.2 (by omega)⟩
    · refine wpo_ldN 35 [.int .i64 c.T.id, .string c.T.name, .int .i64 c.T.len, .int .i64 c.T.speed, .int .i64 c.T.accel, .int .i64 c.T.service, .int .i64 c.T.emergency, .int .i64 c.T.delay, .int .i64 c.T.cons, .int .i64 c.T.rate, .int .i64 c.mode, .int .i64 c.brake, .int .i64 c.next, .int .i64 c.E.min, .int .i64 c.E.max, .int .i64 c.E.speed, .int .i64 c.seq, .int .i64 c.en, .slice A1 c.p.length c1, .slice L1 c.k.length d1, .int .i64 c.peer, .int .i64 c.out, .int .i64 si, .int .i64 sh, .bool c.known, .int .i64 c.since] rfl rfl (HOCv6.out).cells Tryd.underlying35 szCab rfl ?_
      try (refine hK _ _ ?_; clear hK K)
      refine wpAny_go (rs := [1]) (by kernel_rfl) (by simp) (AllO.cons rfl rfl (fun K hK => ?_) (AllO.nil))
      go_wp2_with fail
      refine (HEC.out _).mono ?_
      rintro e we ⟨rfl, hbe⟩
      have HOCv7 := Lib.hid (HOCv6.out.keep hbe)
      have HOMv7 := Lib.hid (HOMv6.out.keep hbe)
      have HORv7 := Lib.hid (HORv6.out.keep hbe)
      have HNAv7 := Lib.hid (HNAv6.out.keep hbe)
      have HNLv7 := Lib.hid (HNLv6.out.keep hbe)
      have HXv7 := Lib.hid (etr HXv6.out hbe)
      clear hbe
      go_wp2
      try (refine hK _ _ ?_; clear hK K)
      refine wpAny_go (rs := [3]) (by kernel_rfl) (by simp) (AllO.cons rfl rfl (fun K hK => ?_) (AllO.nil))
      go_wp2_with fail
      refine (HGC.out si sh A1 L1 c1 d1 _ HXv7.out).mono ?_
      rintro e w8 ⟨A2, c2, L2, d2, rfl, h1, h2, hb⟩
      have zr := HORv7.out.1
      have HOCv8 := Lib.hid (HOCv7.out.keep hb)
      have HOMv8 := Lib.hid (HOMv7.out.keep hb)
      have HORv8 := Lib.hid (HORv7.out.keep hb)
      have HNAv8 := Lib.hid (HNAv7.out.keep hb)
      have HNLv8 := Lib.hid (HNLv7.out.keep hb)
      have HXv8 := Lib.hid (etr HXv7.out hb)
      have HNPv8 := Lib.hid h1
      have HNQv8 := Lib.hid h2
      clear hb h1 h2
      go_wp2
      try (refine hK _ _ ?_; clear hK K)
      refine wpAny_go (rs := [4, 5]) (by kernel_rfl) (by simp) (AllO.cons rfl rfl (fun K hK => ?_) (AllO.cons rfl rfl (fun K hK => ?_) (AllO.nil)))
      · go_wp2
        try (refine hK _ _ ?_; clear hK K)
        refine wpAny_go (rs := [5]) (by kernel_rfl) (by simp) (AllO.cons rfl rfl (fun K hK => ?_) (AllO.nil))
        go_wp2
        try (refine hK _ _ ?_; clear hK K)
        refine wpAny_go (rs := [6]) (by kernel_rfl) (by simp) (AllO.cons rfl rfl (fun K hK => ?_) (AllO.nil))
        refine wpo_stN 35 [.int .i64 c.T.id, .string c.T.name, .int .i64 c.T.len, .int .i64 c.T.speed, .int .i64 c.T.accel, .int .i64 c.T.service, .int .i64 c.T.emergency, .int .i64 c.T.delay, .int .i64 c.T.cons, .int .i64 c.T.rate, .int .i64 2, .int .i64 c.brake, .int .i64 0, .int .i64 c.E.min, .int .i64 c.E.max, .int .i64 c.E.speed, .int .i64 m.aseq, .int .i64 m.aen, .slice A2 m.p.length c2, .slice L2 0 d2, .int .i64 c.peer, .int .i64 c.out, .int .i64 si, .int .i64 sh, .bool c.known, .int .i64 c.since] [.int .i64 c.T.id, .string c.T.name, .int .i64 c.T.len, .int .i64 c.T.speed, .int .i64 c.T.accel, .int .i64 c.T.service, .int .i64 c.T.emergency, .int .i64 c.T.delay, .int .i64 c.T.cons, .int .i64 c.T.rate, .int .i64 2, .int .i64 c.brake, .int .i64 0, .int .i64 c.E.min, .int .i64 c.E.max, .int .i64 c.E.speed, .int .i64 m.aseq, .int .i64 m.aen, .slice A2 m.p.length c2, .slice L2 0 d2, .int .i64 c.peer, .int .i64 c.out, .int .i64 si, .int .i64 sh, .bool c.known, .int .i64 c.since] rfl rfl (HORv8.out) rfl szCab rfl (by show (0 + 26 : Nat) ≤ 26; decide) rfl ?_; intro w9 H9
        try (refine hK _ _ ?_; clear hK K)
        refine wpAny_go (rs := [7]) (by kernel_rfl) (by simp) (AllO.cons rfl rfl (fun K hK => ?_) (AllO.nil))
        go_wp2
        try (refine hK _ _ ?_; clear hK K)
        refine wpAny_end (by kernel_rfl) ?_
        go_wp2
        refine bodyPost_ret (res_ct (by rfl) (by rfl) (by rfl) H9.out.1.cells Tryd.underlying35 szCab) rfl ?_
        obtain ⟨rfl, rfl⟩ := HSE.out
        exact ⟨A2, c2, L2, d2, rfl, (HNPv8.out.only H9.out.2 (by omega)).mono (by omega), (HNQv8.out.only H9.out.2 (by omega)).mono (by omega), eonly HXv8.out H9.out.2 (by omega)⟩
      · go_wp2
        try (refine hK _ _ ?_; clear hK K)
        refine wpAny_go (rs := [4]) (by kernel_rfl) (by simp) (AllO.cons rfl rfl (fun K hK => ?_) (AllO.nil))
        go_wp2
        try (refine hK _ _ ?_; clear hK K)
        refine wpAny_go (rs := [6]) (by kernel_rfl) (by simp) (AllO.cons rfl rfl (fun K hK => ?_) (AllO.nil))
        refine wpo_stN 35 [.int .i64 c.T.id, .string c.T.name, .int .i64 c.T.len, .int .i64 c.T.speed, .int .i64 c.T.accel, .int .i64 c.T.service, .int .i64 c.T.emergency, .int .i64 c.T.delay, .int .i64 c.T.cons, .int .i64 c.T.rate, .int .i64 2, .int .i64 c.brake, .int .i64 0, .int .i64 c.E.min, .int .i64 c.E.max, .int .i64 c.E.speed, .int .i64 m.aseq, .int .i64 m.aen, .slice A2 m.p.length c2, .slice L2 0 d2, .int .i64 c.peer, .int .i64 c.out, .int .i64 si, .int .i64 sh, .bool c.known, .int .i64 c.since] [.int .i64 c.T.id, .string c.T.name, .int .i64 c.T.len, .int .i64 c.T.speed, .int .i64 c.T.accel, .int .i64 c.T.service, .int .i64 c.T.emergency, .int .i64 c.T.delay, .int .i64 c.T.cons, .int .i64 c.T.rate, .int .i64 2, .int .i64 c.brake, .int .i64 0, .int .i64 c.E.min, .int .i64 c.E.max, .int .i64 c.E.speed, .int .i64 m.aseq, .int .i64 m.aen, .slice A2 m.p.length c2, .slice L2 0 d2, .int .i64 c.peer, .int .i64 c.out, .int .i64 si, .int .i64 sh, .bool c.known, .int .i64 c.since] rfl rfl (HORv8.out) rfl szCab rfl (by show (0 + 26 : Nat) ≤ 26; decide) rfl ?_; intro w9 H9
        try (refine hK _ _ ?_; clear hK K)
        refine wpAny_go (rs := [7]) (by kernel_rfl) (by simp) (AllO.cons rfl rfl (fun K hK => ?_) (AllO.nil))
        go_wp2
        try (refine hK _ _ ?_; clear hK K)
        refine wpAny_end (by kernel_rfl) ?_
        go_wp2
        refine bodyPost_ret (res_ct (by rfl) (by rfl) (by rfl) H9.out.1.cells Tryd.underlying35 szCab) rfl ?_
        obtain ⟨rfl, rfl⟩ := HSE.out
        exact ⟨A2, c2, L2, d2, rfl, (HNPv8.out.only H9.out.2 (by omega)).mono (by omega), (HNQv8.out.only H9.out.2 (by omega)).mono (by omega), eonly HXv8.out H9.out.2 (by omega)⟩
  · refine wpo_ldN 35 [.int .i64 c.T.id, .string c.T.name, .int .i64 c.T.len, .int .i64 c.T.speed, .int .i64 c.T.accel, .int .i64 c.T.service, .int .i64 c.T.emergency, .int .i64 c.T.delay, .int .i64 c.T.cons, .int .i64 c.T.rate, .int .i64 c.mode, .int .i64 c.brake, .int .i64 c.next, .int .i64 c.E.min, .int .i64 c.E.max, .int .i64 c.E.speed, .int .i64 c.seq, .int .i64 c.en, .slice A1 c.p.length c1, .slice L1 c.k.length d1, .int .i64 c.peer, .int .i64 c.out, .int .i64 si, .int .i64 sh, .bool c.known, .int .i64 c.since] rfl rfl (HOCv6.out).cells Tryd.underlying35 szCab rfl ?_
    try (refine hK _ _ ?_; clear hK K)
    refine wpAny_go (rs := [0]) (by kernel_rfl) (by simp) (AllO.cons rfl rfl (fun K hK => ?_) (AllO.nil))
    refine wpo_ldN 39 [.int .i64 m.kind, .int .i64 m.frm, .int .i64 m.to_, .int .i64 m.seq, .int .i64 m.time, .int .i64 m.aseq, .int .i64 m.aen, .slice B m.p.length cb, .slice none 0 0, .int .i64 m.rmin, .int .i64 m.rspeed, .int .i64 m.rmode, .int .i64 m.racc, .bool m.rwhole] rfl rfl (HOMv6.out).cells Tryd.underlying39 szMsg rfl ?_
    try (refine hK _ _ ?_; clear hK K)
    refine wpAny_go (rs := [1]) (by kernel_rfl) (by simp) (AllO.cons rfl rfl (fun K hK => ?_) (AllO.nil))
    go_wp2_with fail
    refine (HEC.out _).mono ?_
    rintro e we ⟨rfl, hbe⟩
    have HOCv7 := Lib.hid (HOCv6.out.keep hbe)
    have HOMv7 := Lib.hid (HOMv6.out.keep hbe)
    have HORv7 := Lib.hid (HORv6.out.keep hbe)
    have HNAv7 := Lib.hid (HNAv6.out.keep hbe)
    have HNLv7 := Lib.hid (HNLv6.out.keep hbe)
    have HXv7 := Lib.hid (etr HXv6.out hbe)
    clear hbe
    go_wp2
    try (refine hK _ _ ?_; clear hK K)
    refine wpAny_go (rs := [3]) (by kernel_rfl) (by simp) (AllO.cons rfl rfl (fun K hK => ?_) (AllO.nil))
    go_wp2_with fail
    refine (HGC.out si sh A1 L1 c1 d1 _ HXv7.out).mono ?_
    rintro e w8 ⟨A2, c2, L2, d2, rfl, h1, h2, hb⟩
    have zr := HORv7.out.1
    have HOCv8 := Lib.hid (HOCv7.out.keep hb)
    have HOMv8 := Lib.hid (HOMv7.out.keep hb)
    have HORv8 := Lib.hid (HORv7.out.keep hb)
    have HNAv8 := Lib.hid (HNAv7.out.keep hb)
    have HNLv8 := Lib.hid (HNLv7.out.keep hb)
    have HXv8 := Lib.hid (etr HXv7.out hb)
    have HNPv8 := Lib.hid h1
    have HNQv8 := Lib.hid h2
    clear hb h1 h2
    go_wp2
    try (refine hK _ _ ?_; clear hK K)
    refine wpAny_go (rs := [4, 5]) (by kernel_rfl) (by simp) (AllO.cons rfl rfl (fun K hK => ?_) (AllO.cons rfl rfl (fun K hK => ?_) (AllO.nil)))
    · go_wp2
      try (refine hK _ _ ?_; clear hK K)
      refine wpAny_go (rs := [5]) (by kernel_rfl) (by simp) (AllO.cons rfl rfl (fun K hK => ?_) (AllO.nil))
      go_wp2
      try (refine hK _ _ ?_; clear hK K)
      refine wpAny_go (rs := [6]) (by kernel_rfl) (by simp) (AllO.cons rfl rfl (fun K hK => ?_) (AllO.nil))
      refine wpo_stN 35 [.int .i64 c.T.id, .string c.T.name, .int .i64 c.T.len, .int .i64 c.T.speed, .int .i64 c.T.accel, .int .i64 c.T.service, .int .i64 c.T.emergency, .int .i64 c.T.delay, .int .i64 c.T.cons, .int .i64 c.T.rate, .int .i64 2, .int .i64 c.brake, .int .i64 0, .int .i64 c.E.min, .int .i64 c.E.max, .int .i64 c.E.speed, .int .i64 m.aseq, .int .i64 m.aen, .slice A2 m.p.length c2, .slice L2 0 d2, .int .i64 c.peer, .int .i64 c.out, .int .i64 si, .int .i64 sh, .bool c.known, .int .i64 c.since] [.int .i64 c.T.id, .string c.T.name, .int .i64 c.T.len, .int .i64 c.T.speed, .int .i64 c.T.accel, .int .i64 c.T.service, .int .i64 c.T.emergency, .int .i64 c.T.delay, .int .i64 c.T.cons, .int .i64 c.T.rate, .int .i64 2, .int .i64 c.brake, .int .i64 0, .int .i64 c.E.min, .int .i64 c.E.max, .int .i64 c.E.speed, .int .i64 m.aseq, .int .i64 m.aen, .slice A2 m.p.length c2, .slice L2 0 d2, .int .i64 c.peer, .int .i64 c.out, .int .i64 si, .int .i64 sh, .bool c.known, .int .i64 c.since] rfl rfl (HORv8.out) rfl szCab rfl (by show (0 + 26 : Nat) ≤ 26; decide) rfl ?_; intro w9 H9
      try (refine hK _ _ ?_; clear hK K)
      refine wpAny_go (rs := [7]) (by kernel_rfl) (by simp) (AllO.cons rfl rfl (fun K hK => ?_) (AllO.nil))
      go_wp2
      try (refine hK _ _ ?_; clear hK K)
      refine wpAny_end (by kernel_rfl) ?_
      go_wp2
      refine bodyPost_ret (res_ct (by rfl) (by rfl) (by rfl) H9.out.1.cells Tryd.underlying35 szCab) rfl ?_
      obtain ⟨rfl, rfl⟩ := HSE.out
      exact ⟨A2, c2, L2, d2, rfl, (HNPv8.out.only H9.out.2 (by omega)).mono (by omega), (HNQv8.out.only H9.out.2 (by omega)).mono (by omega), eonly HXv8.out H9.out.2 (by omega)⟩
    · go_wp2
      try (refine hK _ _ ?_; clear hK K)
      refine wpAny_go (rs := [4]) (by kernel_rfl) (by simp) (AllO.cons rfl rfl (fun K hK => ?_) (AllO.nil))
      go_wp2
      try (refine hK _ _ ?_; clear hK K)
      refine wpAny_go (rs := [6]) (by kernel_rfl) (by simp) (AllO.cons rfl rfl (fun K hK => ?_) (AllO.nil))
      refine wpo_stN 35 [.int .i64 c.T.id, .string c.T.name, .int .i64 c.T.len, .int .i64 c.T.speed, .int .i64 c.T.accel, .int .i64 c.T.service, .int .i64 c.T.emergency, .int .i64 c.T.delay, .int .i64 c.T.cons, .int .i64 c.T.rate, .int .i64 2, .int .i64 c.brake, .int .i64 0, .int .i64 c.E.min, .int .i64 c.E.max, .int .i64 c.E.speed, .int .i64 m.aseq, .int .i64 m.aen, .slice A2 m.p.length c2, .slice L2 0 d2, .int .i64 c.peer, .int .i64 c.out, .int .i64 si, .int .i64 sh, .bool c.known, .int .i64 c.since] [.int .i64 c.T.id, .string c.T.name, .int .i64 c.T.len, .int .i64 c.T.speed, .int .i64 c.T.accel, .int .i64 c.T.service, .int .i64 c.T.emergency, .int .i64 c.T.delay, .int .i64 c.T.cons, .int .i64 c.T.rate, .int .i64 2, .int .i64 c.brake, .int .i64 0, .int .i64 c.E.min, .int .i64 c.E.max, .int .i64 c.E.speed, .int .i64 m.aseq, .int .i64 m.aen, .slice A2 m.p.length c2, .slice L2 0 d2, .int .i64 c.peer, .int .i64 c.out, .int .i64 si, .int .i64 sh, .bool c.known, .int .i64 c.since] rfl rfl (HORv8.out) rfl szCab rfl (by show (0 + 26 : Nat) ≤ 26; decide) rfl ?_; intro w9 H9
      try (refine hK _ _ ?_; clear hK K)
      refine wpAny_go (rs := [7]) (by kernel_rfl) (by simp) (AllO.cons rfl rfl (fun K hK => ?_) (AllO.nil))
      go_wp2
      try (refine hK _ _ ?_; clear hK K)
      refine wpAny_end (by kernel_rfl) ?_
      go_wp2
      refine bodyPost_ret (res_ct (by rfl) (by rfl) (by rfl) H9.out.1.cells Tryd.underlying35 szCab) rfl ?_
      obtain ⟨rfl, rfl⟩ := HSE.out
      exact ⟨A2, c2, L2, d2, rfl, (HNPv8.out.only H9.out.2 (by omega)).mono (by omega), (HNQv8.out.only H9.out.2 (by omega)).mono (by omega), eonly HXv8.out H9.out.2 (by omega)⟩

def SixR (w0 : World) (c : Cb) (e : Ending) (w' : World) : Prop := ∃ (d : Cb) (n : Int), d.mode = c.mode ∧ CabRE w0 d n e w'
set_option maxHeartbeats 32000000 in
theorem rec_six (c : Cb) (m : Ms) (A L B D : Option Addr) (ca cl cb ck : Nat) (now : Int) (w : World) (hp : c.p.length ≤ 1000000) (hk : c.k.length ≤ 1000000) (hr : Rd w A 4 Sgc c.p) (hr2 : Rd w L 2 Lkc c.k) (it : I64 m.time) (inw : I64 now)
    (ht : Tabs w) (h6 : c.mode = 6) (hmp : m.p.length ≤ maxLen) (hmk : m.k.length ≤ maxLen) (hck : m.k.length ≤ ck) (hrm : Rd w B 4 Sgc m.p) (hrk : Rd w D 2 Lkc m.k) :
    Calls Tryd.prog 12 #[.agg #[.int .i64 c.T.id, .string c.T.name, .int .i64 c.T.len, .int .i64 c.T.speed, .int .i64 c.T.accel, .int .i64 c.T.service, .int .i64 c.T.emergency, .int .i64 c.T.delay, .int .i64 c.T.cons, .int .i64 c.T.rate, .int .i64 c.mode, .int .i64 c.brake, .int .i64 c.next, .int .i64 c.E.min, .int .i64 c.E.max, .int .i64 c.E.speed, .int .i64 c.seq, .int .i64 c.en, .slice A c.p.length ca, .slice L c.k.length cl, .int .i64 c.peer, .int .i64 c.out, .int .i64 c.inn, .int .i64 c.heard, .bool c.known, .int .i64 c.since], .agg #[.int .i64 m.kind, .int .i64 m.frm, .int .i64 m.to_, .int .i64 m.seq, .int .i64 m.time, .int .i64 m.aseq, .int .i64 m.aen, .slice B m.p.length cb, .slice D m.k.length ck, .int .i64 m.rmin, .int .i64 m.rspeed, .int .i64 m.rmode, .int .i64 m.racc, .bool m.rwhole], .int .i64 now] w fun e w' => SixR w c e w' := by
  have HP := Lib.hid hr
  have HK := Lib.hid hr2
  obtain ⟨t, htt⟩ : ∃ t, t = takE c m now := ⟨_, rfl⟩
  have HTC : Hid (∀ x, Calls Tryd.prog 34 #[.agg #[.int .i64 c.peer, .int .i64 c.out, .int .i64 c.inn, .int .i64 c.heard], .agg #[.int .i64 m.kind, .int .i64 m.frm, .int .i64 m.to_, .int .i64 m.seq, .int .i64 m.time, .int .i64 m.aseq, .int .i64 m.aen, .slice B m.p.length cb, .slice D m.k.length ck, .int .i64 m.rmin, .int .i64 m.rspeed, .int .i64 m.rmode, .int .i64 m.racc, .bool m.rwhole], .int .i64 now] x fun e w' => ∃ i h : Int, e = .returned (.tuple #[.agg #[.int .i64 c.peer, .int .i64 c.out, .int .i64 i, .int .i64 h], .int .i64 t]) ∧ True ∧ Below x.heap.size x w') := fun x => by
    refine (take_any c m B D cb ck now x it inw).mono ?_
    rintro e w' ⟨i, h, rfl, h1, h2⟩
    rw [htt]
    exact ⟨i, h, rfl, trivial, h2⟩
  have HEK : Hid ((∀ x, Calls Tryd.prog 35 #[.agg #[.int .i64 m.kind, .int .i64 m.frm, .int .i64 m.to_, .int .i64 m.seq, .int .i64 m.time, .int .i64 m.aseq, .int .i64 m.aen, .slice B m.p.length cb, .slice D m.k.length ck, .int .i64 m.rmin, .int .i64 m.rspeed, .int .i64 m.rmode, .int .i64 m.racc, .bool m.rwhole]] x fun e w' => e = .returned (.iface 114 (.agg #[.int .i64 m.aseq, .int .i64 m.aen, .slice B m.p.length cb, .slice D m.k.length ck, .bool false])) ∧ Below x.heap.size x w') ∨ (∀ x, Calls Tryd.prog 35 #[.agg #[.int .i64 m.kind, .int .i64 m.frm, .int .i64 m.to_, .int .i64 m.seq, .int .i64 m.time, .int .i64 m.aseq, .int .i64 m.aen, .slice B m.p.length cb, .slice D m.k.length ck, .int .i64 m.rmin, .int .i64 m.rspeed, .int .i64 m.rmode, .int .i64 m.racc, .bool m.rwhole]] x fun e w' => e = .returned (.iface 114 (.agg #[.int .i64 m.aseq, .int .i64 m.aen, .slice B m.p.length cb, .slice D m.k.length ck, .bool true])) ∧ Below x.heap.size x w') ∨ (∀ x, Calls Tryd.prog 35 #[.agg #[.int .i64 m.kind, .int .i64 m.frm, .int .i64 m.to_, .int .i64 m.seq, .int .i64 m.time, .int .i64 m.aseq, .int .i64 m.aen, .slice B m.p.length cb, .slice D m.k.length ck, .int .i64 m.rmin, .int .i64 m.rspeed, .int .i64 m.rmode, .int .i64 m.racc, .bool m.rwhole]] x fun e w' => e = .returned (.iface 116 (.agg #[])) ∧ Below x.heap.size x w') ∨ (∀ x, Calls Tryd.prog 35 #[.agg #[.int .i64 m.kind, .int .i64 m.frm, .int .i64 m.to_, .int .i64 m.seq, .int .i64 m.time, .int .i64 m.aseq, .int .i64 m.aen, .slice B m.p.length cb, .slice D m.k.length ck, .int .i64 m.rmin, .int .i64 m.rspeed, .int .i64 m.rmode, .int .i64 m.racc, .bool m.rwhole]] x fun e w' => e = .returned (.iface 117 (.agg #[])) ∧ Below x.heap.size x w') ∨ (∀ x, Calls Tryd.prog 35 #[.agg #[.int .i64 m.kind, .int .i64 m.frm, .int .i64 m.to_, .int .i64 m.seq, .int .i64 m.time, .int .i64 m.aseq, .int .i64 m.aen, .slice B m.p.length cb, .slice D m.k.length ck, .int .i64 m.rmin, .int .i64 m.rspeed, .int .i64 m.rmode, .int .i64 m.racc, .bool m.rwhole]] x fun e w' => e = .returned (.iface 118 (.agg #[])) ∧ Below x.heap.size x w')) := by
    have he := fun x => effof_any m B D cb ck x
    unfold effI at he
    by_cases h2 : m.kind = 2
    · exact .inl fun x => by have := he x; rw [if_pos h2] at this; exact this
    · by_cases h3 : m.kind = 3
      · exact .inr (.inl fun x => by have := he x; rw [if_neg h2, if_pos h3] at this; exact this)
      · by_cases h4 : m.kind = 4
        · exact .inr (.inr (.inl fun x => by have := he x; rw [if_neg h2, if_neg h3, if_pos h4] at this; exact this))
        · by_cases h5 : m.kind = 5
          · exact .inr (.inr (.inr (.inl fun x => by have := he x; rw [if_neg h2, if_neg h3, if_neg h4, if_pos h5] at this; exact this)))
          · exact .inr (.inr (.inr (.inr fun x => by have := he x; rw [if_neg h2, if_neg h3, if_neg h4, if_neg h5] at this; exact this)))
  have HG2 : Hid (∀ (si sh : Int) (A1 L1 : Option Addr) (c1 d1 : Nat) (x : World), Ext w x → Calls Tryd.prog 149 #[.agg #[.int .i64 m.aseq, .int .i64 m.aen, .slice B m.p.length cb, .slice D m.k.length ck, .bool false], .agg #[.int .i64 c.T.id, .string c.T.name, .int .i64 c.T.len, .int .i64 c.T.speed, .int .i64 c.T.accel, .int .i64 c.T.service, .int .i64 c.T.emergency, .int .i64 c.T.delay, .int .i64 c.T.cons, .int .i64 c.T.rate, .int .i64 c.mode, .int .i64 c.brake, .int .i64 c.next, .int .i64 c.E.min, .int .i64 c.E.max, .int .i64 c.E.speed, .int .i64 c.seq, .int .i64 c.en, .slice A1 c.p.length c1, .slice L1 c.k.length d1, .int .i64 c.peer, .int .i64 c.out, .int .i64 si, .int .i64 sh, .bool c.known, .int .i64 c.since]] x fun e w' => SamR x { c with inn := si, heard := sh } A1 L1 c1 d1 e w') := fun si sh A1 L1 c1 d1 x hx => apgrant_six { c with inn := si, heard := sh } m false A1 L1 B D c1 d1 cb ck x h6 (ht.keep hx) hmp hmk hck (hrm.keep hx) (hrk.keep hx)
  have HG3 : Hid (∀ (si sh : Int) (A1 L1 : Option Addr) (c1 d1 : Nat) (x : World), Ext w x → Calls Tryd.prog 149 #[.agg #[.int .i64 m.aseq, .int .i64 m.aen, .slice B m.p.length cb, .slice D m.k.length ck, .bool true], .agg #[.int .i64 c.T.id, .string c.T.name, .int .i64 c.T.len, .int .i64 c.T.speed, .int .i64 c.T.accel, .int .i64 c.T.service, .int .i64 c.T.emergency, .int .i64 c.T.delay, .int .i64 c.T.cons, .int .i64 c.T.rate, .int .i64 c.mode, .int .i64 c.brake, .int .i64 c.next, .int .i64 c.E.min, .int .i64 c.E.max, .int .i64 c.E.speed, .int .i64 c.seq, .int .i64 c.en, .slice A1 c.p.length c1, .slice L1 c.k.length d1, .int .i64 c.peer, .int .i64 c.out, .int .i64 si, .int .i64 sh, .bool c.known, .int .i64 c.since]] x fun e w' => SamR x { c with inn := si, heard := sh } A1 L1 c1 d1 e w') := fun si sh A1 L1 c1 d1 x hx => apgrant_six { c with inn := si, heard := sh } m true A1 L1 B D c1 d1 cb ck x h6 (ht.keep hx) hmp hmk hck (hrm.keep hx) (hrk.keep hx)
  have HG4 : Hid (∀ (si sh : Int) (A1 L1 : Option Addr) (c1 d1 : Nat) (x : World), Ext w x → Calls Tryd.prog 155 #[.agg #[], .agg #[.int .i64 c.T.id, .string c.T.name, .int .i64 c.T.len, .int .i64 c.T.speed, .int .i64 c.T.accel, .int .i64 c.T.service, .int .i64 c.T.emergency, .int .i64 c.T.delay, .int .i64 c.T.cons, .int .i64 c.T.rate, .int .i64 c.mode, .int .i64 c.brake, .int .i64 c.next, .int .i64 c.E.min, .int .i64 c.E.max, .int .i64 c.E.speed, .int .i64 c.seq, .int .i64 c.en, .slice A1 c.p.length c1, .slice L1 c.k.length d1, .int .i64 c.peer, .int .i64 c.out, .int .i64 si, .int .i64 sh, .bool c.known, .int .i64 c.since]] x fun e w' => SamR x { c with inn := si, heard := sh } A1 L1 c1 d1 e w') := fun si sh A1 L1 c1 d1 x hx => apstop_six { c with inn := si, heard := sh } A1 L1 c1 d1 x h6 (ht.keep hx)
  have HG5 : Hid (∀ (si sh : Int) (A1 L1 : Option Addr) (c1 d1 : Nat) (x : World), Ext w x → Calls Tryd.prog 156 #[.agg #[], .agg #[.int .i64 c.T.id, .string c.T.name, .int .i64 c.T.len, .int .i64 c.T.speed, .int .i64 c.T.accel, .int .i64 c.T.service, .int .i64 c.T.emergency, .int .i64 c.T.delay, .int .i64 c.T.cons, .int .i64 c.T.rate, .int .i64 c.mode, .int .i64 c.brake, .int .i64 c.next, .int .i64 c.E.min, .int .i64 c.E.max, .int .i64 c.E.speed, .int .i64 c.seq, .int .i64 c.en, .slice A1 c.p.length c1, .slice L1 c.k.length d1, .int .i64 c.peer, .int .i64 c.out, .int .i64 si, .int .i64 sh, .bool c.known, .int .i64 c.since]] x fun e w' => SamR x { c with inn := si, heard := sh } A1 L1 c1 d1 e w') := fun si sh A1 L1 c1 d1 x hx => (apalive_any { c with inn := si, heard := sh } A1 L1 c1 d1 x).mono fun e w' h => ⟨0, h⟩
  have HG0 : Hid (∀ (si sh : Int) (A1 L1 : Option Addr) (c1 d1 : Nat) (x : World), Ext w x → Calls Tryd.prog 157 #[.agg #[], .agg #[.int .i64 c.T.id, .string c.T.name, .int .i64 c.T.len, .int .i64 c.T.speed, .int .i64 c.T.accel, .int .i64 c.T.service, .int .i64 c.T.emergency, .int .i64 c.T.delay, .int .i64 c.T.cons, .int .i64 c.T.rate, .int .i64 c.mode, .int .i64 c.brake, .int .i64 c.next, .int .i64 c.E.min, .int .i64 c.E.max, .int .i64 c.E.speed, .int .i64 c.seq, .int .i64 c.en, .slice A1 c.p.length c1, .slice L1 c.k.length d1, .int .i64 c.peer, .int .i64 c.out, .int .i64 si, .int .i64 sh, .bool c.known, .int .i64 c.since]] x fun e w' => SamR x { c with inn := si, heard := sh } A1 L1 c1 d1 e w') := fun si sh A1 L1 c1 d1 x hx => (aprefused_any { c with inn := si, heard := sh } A1 L1 c1 d1 x).mono fun e w' h => ⟨1, h⟩
  clear hr hr2 it inw ht h6 hmp hmk hck hrm hrk htt
  obtain ⟨w1, hw⟩ : ∃ w1, w1 = (((w.alloc (.cells #[.int .i64 c.T.id, .string c.T.name, .int .i64 c.T.len, .int .i64 c.T.speed, .int .i64 c.T.accel, .int .i64 c.T.service, .int .i64 c.T.emergency, .int .i64 c.T.delay, .int .i64 c.T.cons, .int .i64 c.T.rate, .int .i64 c.mode, .int .i64 c.brake, .int .i64 c.next, .int .i64 c.E.min, .int .i64 c.E.max, .int .i64 c.E.speed, .int .i64 c.seq, .int .i64 c.en, .slice A c.p.length ca, .slice L c.k.length cl, .int .i64 c.peer, .int .i64 c.out, .int .i64 c.inn, .int .i64 c.heard, .bool c.known, .int .i64 c.since] 35)).alloc (.cells #[.int .i64 m.kind, .int .i64 m.frm, .int .i64 m.to_, .int .i64 m.seq, .int .i64 m.time, .int .i64 m.aseq, .int .i64 m.aen, .slice B m.p.length cb, .slice D m.k.length ck, .int .i64 m.rmin, .int .i64 m.rspeed, .int .i64 m.rmode, .int .i64 m.racc, .bool m.rwhole] 39)).alloc (.cells #[.int .i64 0, .string ⟨#[]⟩, .int .i64 0, .int .i64 0, .int .i64 0, .int .i64 0, .int .i64 0, .int .i64 0, .int .i64 0, .int .i64 0, .int .i64 0, .int .i64 0, .int .i64 0, .int .i64 0, .int .i64 0, .int .i64 0, .int .i64 0, .int .i64 0, .slice none 0 0, .slice none 0 0, .int .i64 0, .int .i64 0, .int .i64 0, .int .i64 0, .bool false, .int .i64 0] 35)) := ⟨_, rfl⟩
  have HE0 : Hid (Ext w w1) := by rw [hw]; exact eal (eal (eal (Ext.refl w) _) _) _
  have HC : Hid (Own w1 (w.heap.size) [.int .i64 c.T.id, .string c.T.name, .int .i64 c.T.len, .int .i64 c.T.speed, .int .i64 c.T.accel, .int .i64 c.T.service, .int .i64 c.T.emergency, .int .i64 c.T.delay, .int .i64 c.T.cons, .int .i64 c.T.rate, .int .i64 c.mode, .int .i64 c.brake, .int .i64 c.next, .int .i64 c.E.min, .int .i64 c.E.max, .int .i64 c.E.speed, .int .i64 c.seq, .int .i64 c.en, .slice A c.p.length ca, .slice L c.k.length cl, .int .i64 c.peer, .int .i64 c.out, .int .i64 c.inn, .int .i64 c.heard, .bool c.known, .int .i64 c.since]) := by rw [hw]; exact ((Own.new (w := w) (cs := #[.int .i64 c.T.id, .string c.T.name, .int .i64 c.T.len, .int .i64 c.T.speed, .int .i64 c.T.accel, .int .i64 c.T.service, .int .i64 c.T.emergency, .int .i64 c.T.delay, .int .i64 c.T.cons, .int .i64 c.T.rate, .int .i64 c.mode, .int .i64 c.brake, .int .i64 c.next, .int .i64 c.E.min, .int .i64 c.E.max, .int .i64 c.E.speed, .int .i64 c.seq, .int .i64 c.en, .slice A c.p.length ca, .slice L c.k.length cl, .int .i64 c.peer, .int .i64 c.out, .int .i64 c.inn, .int .i64 c.heard, .bool c.known, .int .i64 c.since]) (t := 35) (by simp)).alloc _).alloc _
  have HM : Hid (Own w1 (w.heap.size + 1) [.int .i64 m.kind, .int .i64 m.frm, .int .i64 m.to_, .int .i64 m.seq, .int .i64 m.time, .int .i64 m.aseq, .int .i64 m.aen, .slice B m.p.length cb, .slice D m.k.length ck, .int .i64 m.rmin, .int .i64 m.rspeed, .int .i64 m.rmode, .int .i64 m.racc, .bool m.rwhole]) := by rw [hw]; exact (Own.new (w := (w.alloc (.cells #[.int .i64 c.T.id, .string c.T.name, .int .i64 c.T.len, .int .i64 c.T.speed, .int .i64 c.T.accel, .int .i64 c.T.service, .int .i64 c.T.emergency, .int .i64 c.T.delay, .int .i64 c.T.cons, .int .i64 c.T.rate, .int .i64 c.mode, .int .i64 c.brake, .int .i64 c.next, .int .i64 c.E.min, .int .i64 c.E.max, .int .i64 c.E.speed, .int .i64 c.seq, .int .i64 c.en, .slice A c.p.length ca, .slice L c.k.length cl, .int .i64 c.peer, .int .i64 c.out, .int .i64 c.inn, .int .i64 c.heard, .bool c.known, .int .i64 c.since] 35))) (cs := #[.int .i64 m.kind, .int .i64 m.frm, .int .i64 m.to_, .int .i64 m.seq, .int .i64 m.time, .int .i64 m.aseq, .int .i64 m.aen, .slice B m.p.length cb, .slice D m.k.length ck, .int .i64 m.rmin, .int .i64 m.rspeed, .int .i64 m.rmode, .int .i64 m.racc, .bool m.rwhole]) (t := 39) (by simp)).alloc _
  have HR : Hid (Own w1 (w.heap.size + 1 + 1) [.int .i64 0, .string ⟨#[]⟩, .int .i64 0, .int .i64 0, .int .i64 0, .int .i64 0, .int .i64 0, .int .i64 0, .int .i64 0, .int .i64 0, .int .i64 0, .int .i64 0, .int .i64 0, .int .i64 0, .int .i64 0, .int .i64 0, .int .i64 0, .int .i64 0, .slice none 0 0, .slice none 0 0, .int .i64 0, .int .i64 0, .int .i64 0, .int .i64 0, .bool false, .int .i64 0]) := by rw [hw]; exact Own.new (w := ((w.alloc (.cells #[.int .i64 c.T.id, .string c.T.name, .int .i64 c.T.len, .int .i64 c.T.speed, .int .i64 c.T.accel, .int .i64 c.T.service, .int .i64 c.T.emergency, .int .i64 c.T.delay, .int .i64 c.T.cons, .int .i64 c.T.rate, .int .i64 c.mode, .int .i64 c.brake, .int .i64 c.next, .int .i64 c.E.min, .int .i64 c.E.max, .int .i64 c.E.speed, .int .i64 c.seq, .int .i64 c.en, .slice A c.p.length ca, .slice L c.k.length cl, .int .i64 c.peer, .int .i64 c.out, .int .i64 c.inn, .int .i64 c.heard, .bool c.known, .int .i64 c.since] 35)).alloc (.cells #[.int .i64 m.kind, .int .i64 m.frm, .int .i64 m.to_, .int .i64 m.seq, .int .i64 m.time, .int .i64 m.aseq, .int .i64 m.aen, .slice B m.p.length cb, .slice D m.k.length ck, .int .i64 m.rmin, .int .i64 m.rspeed, .int .i64 m.rmode, .int .i64 m.racc, .bool m.rwhole] 39))) (cs := #[.int .i64 0, .string ⟨#[]⟩, .int .i64 0, .int .i64 0, .int .i64 0, .int .i64 0, .int .i64 0, .int .i64 0, .int .i64 0, .int .i64 0, .int .i64 0, .int .i64 0, .int .i64 0, .int .i64 0, .int .i64 0, .int .i64 0, .int .i64 0, .int .i64 0, .slice none 0 0, .slice none 0 0, .int .i64 0, .int .i64 0, .int .i64 0, .int .i64 0, .bool false, .int .i64 0]) (t := 35) (by simp)
  go_enter Tryd.func12, Tryd.ntmps12
  go_upto_region 1 with (fail)
  rw [← hw]
  clear hw
  go_wp2_with (first | (refine wp_ldN 35 [.int .i64 c.T.id, .string c.T.name, .int .i64 c.T.len, .int .i64 c.T.speed, .int .i64 c.T.accel, .int .i64 c.T.service, .int .i64 c.T.emergency, .int .i64 c.T.delay, .int .i64 c.T.cons, .int .i64 c.T.rate, .int .i64 c.mode, .int .i64 c.brake, .int .i64 c.next, .int .i64 c.E.min, .int .i64 c.E.max, .int .i64 c.E.speed, .int .i64 c.seq, .int .i64 c.en, .slice A c.p.length ca, .slice L c.k.length cl, .int .i64 c.peer, .int .i64 c.out, .int .i64 c.inn, .int .i64 c.heard, .bool c.known, .int .i64 c.since] rfl rfl rfl (HC.out).cells Tryd.underlying35 szCab rfl ?_))
  refine (fresh_any c A L ca cl _ hp hk (HP.out.keep HE0.out) (HK.out.keep HE0.out)).mono ?_
  rintro e w2 ⟨A1, c1, L1, d1, rfl, h1, h2, hb⟩
  have z1 := HR.out.1
  have z0 := HE0.out.size
  have HOCv1 := Lib.hid (HC.out.keep hb)
  have HOMv1 := Lib.hid (HM.out.keep hb)
  have HORv1 := Lib.hid (HR.out.keep hb)
  have HXv1 := Lib.hid (etr HE0.out hb)
  have HNAv1 := Lib.hid h1
  have HNLv1 := Lib.hid h2
  clear hb h1 h2
  go_upto_region 2 with (first | (refine wp_stN 35 [.int .i64 c.T.id, .string c.T.name, .int .i64 c.T.len, .int .i64 c.T.speed, .int .i64 c.T.accel, .int .i64 c.T.service, .int .i64 c.T.emergency, .int .i64 c.T.delay, .int .i64 c.T.cons, .int .i64 c.T.rate, .int .i64 c.mode, .int .i64 c.brake, .int .i64 c.next, .int .i64 c.E.min, .int .i64 c.E.max, .int .i64 c.E.speed, .int .i64 c.seq, .int .i64 c.en, .slice A1 c.p.length c1, .slice L1 c.k.length d1, .int .i64 c.peer, .int .i64 c.out, .int .i64 c.inn, .int .i64 c.heard, .bool c.known, .int .i64 c.since] [.int .i64 c.T.id, .string c.T.name, .int .i64 c.T.len, .int .i64 c.T.speed, .int .i64 c.T.accel, .int .i64 c.T.service, .int .i64 c.T.emergency, .int .i64 c.T.delay, .int .i64 c.T.cons, .int .i64 c.T.rate, .int .i64 c.mode, .int .i64 c.brake, .int .i64 c.next, .int .i64 c.E.min, .int .i64 c.E.max, .int .i64 c.E.speed, .int .i64 c.seq, .int .i64 c.en, .slice A1 c.p.length c1, .slice L1 c.k.length d1, .int .i64 c.peer, .int .i64 c.out, .int .i64 c.inn, .int .i64 c.heard, .bool c.known, .int .i64 c.since] rfl rfl rfl (HOCv1.out) rfl szCab rfl (by show (0 + 26 : Nat) ≤ 26; decide) rfl ?_; intro w3 H3))
  have HOCv2 := Lib.hid (H3.out.1)
  have HOMv2 := Lib.hid (HOMv1.out.only H3.out.2 (by omega))
  have HORv2 := Lib.hid (HORv1.out.only H3.out.2 (by omega))
  have HNAv2 := Lib.hid (HNAv1.out.only H3.out.2 (by omega))
  have HNLv2 := Lib.hid (HNLv1.out.only H3.out.2 (by omega))
  have HXv2 := Lib.hid (eonly HXv1.out H3.out.2 (by omega))
  clear H3
  go_wp2_with (first | (refine wp_ldN 31 [.int .i64 c.peer, .int .i64 c.out, .int .i64 c.inn, .int .i64 c.heard] rfl rfl rfl (HOCv2.out).cells Tryd.underlying31 szSes rfl ?_) | (refine wp_ldN 39 [.int .i64 m.kind, .int .i64 m.frm, .int .i64 m.to_, .int .i64 m.seq, .int .i64 m.time, .int .i64 m.aseq, .int .i64 m.aen, .slice B m.p.length cb, .slice D m.k.length ck, .int .i64 m.rmin, .int .i64 m.rspeed, .int .i64 m.rmode, .int .i64 m.racc, .bool m.rwhole] rfl rfl rfl (HOMv2.out).cells Tryd.underlying39 szMsg rfl ?_))
  refine (HTC.out _).mono ?_
  rintro e w4 ⟨si, sh, rfl, hse, hb⟩
  clear hse
  have HOCv3 := Lib.hid (HOCv2.out.keep hb)
  have HOMv3 := Lib.hid (HOMv2.out.keep hb)
  have HORv3 := Lib.hid (HORv2.out.keep hb)
  have HNAv3 := Lib.hid (HNAv2.out.keep hb)
  have HNLv3 := Lib.hid (HNLv2.out.keep hb)
  have HXv3 := Lib.hid (etr HXv2.out hb)
  clear hb
  go_upto_region 3 with (fail)
  obtain ⟨w5, hw5⟩ : ∃ x, x = w4.alloc (.cells #[.int .i64 c.peer, .int .i64 c.out, .int .i64 si, .int .i64 sh] 31) := ⟨_, rfl⟩
  have g5 : Ext w4 w5 := by rw [hw5]; exact eal (Ext.refl _) _
  have O5 : Own w5 w4.heap.size [.int .i64 c.peer, .int .i64 c.out, .int .i64 si, .int .i64 sh] := by rw [hw5]; exact Own.new rfl
  rw [← hw5]
  have zs := HORv3.out.1
  clear hw5
  have HOCv4 := Lib.hid (HOCv3.out.keep g5)
  have HOMv4 := Lib.hid (HOMv3.out.keep g5)
  have HORv4 := Lib.hid (HORv3.out.keep g5)
  have HNAv4 := Lib.hid (HNAv3.out.keep g5)
  have HNLv4 := Lib.hid (HNLv3.out.keep g5)
  have HXv4 := Lib.hid (etr HXv3.out g5)
  have HOS5 := Lib.hid O5
  clear O5 g5
  cases q : (t != 0)
  · go_upto_region 5 with (fail)
    rcases HEK.out with he | he | he | he | he
    · have HEC := Lib.hid he
      clear he HEK
      have hm : ∀ x : World, (method 271 114 (.agg #[.int .i64 m.aseq, .int .i64 m.aen, .slice B m.p.length cb, .slice D m.k.length ck, .bool false]) "signalling/cab.apply").run Tryd.prog x = .ok (149, .agg #[.int .i64 m.aseq, .int .i64 m.aen, .slice B m.p.length cb, .slice D m.k.length ck, .bool false]) x := fun _ => by kernel_rfl
      go_upto_region 6 with (first | (refine wp_ldN 31 [.int .i64 c.peer, .int .i64 c.out, .int .i64 si, .int .i64 sh] rfl rfl rfl (HOS5.out).cells Tryd.underlying31 szSes rfl ?_) | (refine wp_stN 31 [.int .i64 c.T.id, .string c.T.name, .int .i64 c.T.len, .int .i64 c.T.speed, .int .i64 c.T.accel, .int .i64 c.T.service, .int .i64 c.T.emergency, .int .i64 c.T.delay, .int .i64 c.T.cons, .int .i64 c.T.rate, .int .i64 c.mode, .int .i64 c.brake, .int .i64 c.next, .int .i64 c.E.min, .int .i64 c.E.max, .int .i64 c.E.speed, .int .i64 c.seq, .int .i64 c.en, .slice A1 c.p.length c1, .slice L1 c.k.length d1, .int .i64 c.peer, .int .i64 c.out, .int .i64 si, .int .i64 sh, .bool c.known, .int .i64 c.since] [.int .i64 c.peer, .int .i64 c.out, .int .i64 si, .int .i64 sh] rfl rfl rfl (HOCv4.out) rfl szSes rfl (by show (20 + 4 : Nat) ≤ 26; decide) rfl ?_; intro w6 H6))
      have HOCv5 := Lib.hid (H6.out.1)
      have HOMv5 := Lib.hid (HOMv4.out.only H6.out.2 (by omega))
      have HORv5 := Lib.hid (HORv4.out.only H6.out.2 (by omega))
      have HNAv5 := Lib.hid (HNAv4.out.only H6.out.2 (by omega))
      have HNLv5 := Lib.hid (HNLv4.out.only H6.out.2 (by omega))
      have HXv5 := Lib.hid (eonly HXv4.out H6.out.2 (by omega))
      clear H6
      refine wp_region_orders 8 rfl (by kernel_rfl) (fun wd hwd => ?_)
      have HOCv6 := Lib.hid (HOCv5.out.keep hwd)
      have HOMv6 := Lib.hid (HOMv5.out.keep hwd)
      have HORv6 := Lib.hid (HORv5.out.keep hwd)
      have HNAv6 := Lib.hid (HNAv5.out.keep hwd)
      have HNLv6 := Lib.hid (HNLv5.out.keep hwd)
      have HXv6 := Lib.hid (etr HXv5.out hwd)
      clear hwd
      dsimp only [Act.put]
      refine wpAny_go (rs := [0, 2]) (by kernel_rfl) (by simp) (AllO.cons rfl rfl (fun K hK => ?_) (AllO.cons rfl rfl (fun K hK => ?_) (AllO.nil)))
      · refine wpo_ldN 39 [.int .i64 m.kind, .int .i64 m.frm, .int .i64 m.to_, .int .i64 m.seq, .int .i64 m.time, .int .i64 m.aseq, .int .i64 m.aen, .slice B m.p.length cb, .slice D m.k.length ck, .int .i64 m.rmin, .int .i64 m.rspeed, .int .i64 m.rmode, .int .i64 m.racc, .bool m.rwhole] rfl rfl (HOMv6.out).cells Tryd.underlying39 szMsg rfl ?_
        try (refine hK _ _ ?_; clear hK K)
        refine wpAny_go (rs := [1, 2]) (by kernel_rfl) (by simp) (AllO.cons rfl rfl (fun K hK => ?_) (AllO.cons rfl rfl (fun K hK => ?_) (AllO.nil)))
        · go_wp2_with fail
          refine (HEC.out _).mono ?_
          rintro e we ⟨rfl, hbe⟩
          have HOCv7 := Lib.hid (HOCv6.out.keep hbe)
          have HOMv7 := Lib.hid (HOMv6.out.keep hbe)
          have HORv7 := Lib.hid (HORv6.out.keep hbe)
          have HNAv7 := Lib.hid (HNAv6.out.keep hbe)
          have HNLv7 := Lib.hid (HNLv6.out.keep hbe)
          have HXv7 := Lib.hid (etr HXv6.out hbe)
          clear hbe
          go_wp2
          try (refine hK _ _ ?_; clear hK K)
          refine wpAny_go (rs := [2]) (by kernel_rfl) (by simp) (AllO.cons rfl rfl (fun K hK => ?_) (AllO.nil))
          refine wpo_ldN 35 [.int .i64 c.T.id, .string c.T.name, .int .i64 c.T.len, .int .i64 c.T.speed, .int .i64 c.T.accel, .int .i64 c.T.service, .int .i64 c.T.emergency, .int .i64 c.T.delay, .int .i64 c.T.cons, .int .i64 c.T.rate, .int .i64 c.mode, .int .i64 c.brake, .int .i64 c.next, .int .i64 c.E.min, .int .i64 c.E.max, .int .i64 c.E.speed, .int .i64 c.seq, .int .i64 c.en, .slice A1 c.p.length c1, .slice L1 c.k.length d1, .int .i64 c.peer, .int .i64 c.out, .int .i64 si, .int .i64 sh, .bool c.known, .int .i64 c.since] rfl rfl (HOCv7.out).cells Tryd.underlying35 szCab rfl ?_
          try (refine hK _ _ ?_; clear hK K)
          refine wpAny_go (rs := [3]) (by kernel_rfl) (by simp) (AllO.cons rfl rfl (fun K hK => ?_) (AllO.nil))
          go_wp2_with fail
          refine (HG2.out si sh A1 L1 c1 d1 _ HXv7.out).mono ?_
          rintro e w8 ⟨n, rfl, hb⟩
          have zr := HORv7.out.1
          have HOCv8 := Lib.hid (HOCv7.out.keep hb)
          have HOMv8 := Lib.hid (HOMv7.out.keep hb)
          have HORv8 := Lib.hid (HORv7.out.keep hb)
          have HNAv8 := Lib.hid (HNAv7.out.keep hb)
          have HNLv8 := Lib.hid (HNLv7.out.keep hb)
          have HXv8 := Lib.hid (etr HXv7.out hb)
          clear hb
          go_wp2
          try (refine hK _ _ ?_; clear hK K)
          refine wpAny_go (rs := [4, 5]) (by kernel_rfl) (by simp) (AllO.cons rfl rfl (fun K hK => ?_) (AllO.cons rfl rfl (fun K hK => ?_) (AllO.nil)))
          · go_wp2
            try (refine hK _ _ ?_; clear hK K)
            refine wpAny_go (rs := [5]) (by kernel_rfl) (by simp) (AllO.cons rfl rfl (fun K hK => ?_) (AllO.nil))
            go_wp2
            try (refine hK _ _ ?_; clear hK K)
            refine wpAny_go (rs := [6]) (by kernel_rfl) (by simp) (AllO.cons rfl rfl (fun K hK => ?_) (AllO.nil))
            refine wpo_stN 35 [.int .i64 c.T.id, .string c.T.name, .int .i64 c.T.len, .int .i64 c.T.speed, .int .i64 c.T.accel, .int .i64 c.T.service, .int .i64 c.T.emergency, .int .i64 c.T.delay, .int .i64 c.T.cons, .int .i64 c.T.rate, .int .i64 c.mode, .int .i64 c.brake, .int .i64 c.next, .int .i64 c.E.min, .int .i64 c.E.max, .int .i64 c.E.speed, .int .i64 c.seq, .int .i64 c.en, .slice A1 c.p.length c1, .slice L1 c.k.length d1, .int .i64 c.peer, .int .i64 c.out, .int .i64 si, .int .i64 sh, .bool c.known, .int .i64 c.since] [.int .i64 c.T.id, .string c.T.name, .int .i64 c.T.len, .int .i64 c.T.speed, .int .i64 c.T.accel, .int .i64 c.T.service, .int .i64 c.T.emergency, .int .i64 c.T.delay, .int .i64 c.T.cons, .int .i64 c.T.rate, .int .i64 c.mode, .int .i64 c.brake, .int .i64 c.next, .int .i64 c.E.min, .int .i64 c.E.max, .int .i64 c.E.speed, .int .i64 c.seq, .int .i64 c.en, .slice A1 c.p.length c1, .slice L1 c.k.length d1, .int .i64 c.peer, .int .i64 c.out, .int .i64 si, .int .i64 sh, .bool c.known, .int .i64 c.since] rfl rfl (HORv8.out) rfl szCab rfl (by show (0 + 26 : Nat) ≤ 26; decide) rfl ?_; intro w9 H9
            try (refine hK _ _ ?_; clear hK K)
            refine wpAny_go (rs := [7]) (by kernel_rfl) (by simp) (AllO.cons rfl rfl (fun K hK => ?_) (AllO.nil))
            go_wp2
            try (refine hK _ _ ?_; clear hK K)
            refine wpAny_end (by kernel_rfl) ?_
            go_wp2
            refine bodyPost_ret (res_ct (by rfl) (by rfl) (by rfl) H9.out.1.cells Tryd.underlying35 szCab) rfl ?_
            exact ⟨{ c with inn := si, heard := sh }, n, rfl, A1, c1, L1, d1, rfl, (HNAv8.out.only H9.out.2 (by omega)).mono (by omega), (HNLv8.out.only H9.out.2 (by omega)).mono (by omega), eonly HXv8.out H9.out.2 (by omega)⟩
          · go_wp2
            try (refine hK _ _ ?_; clear hK K)
            refine wpAny_go (rs := [4]) (by kernel_rfl) (by simp) (AllO.cons rfl rfl (fun K hK => ?_) (AllO.nil))
            go_wp2
            try (refine hK _ _ ?_; clear hK K)
            refine wpAny_go (rs := [6]) (by kernel_rfl) (by simp) (AllO.cons rfl rfl (fun K hK => ?_) (AllO.nil))
            refine wpo_stN 35 [.int .i64 c.T.id, .string c.T.name, .int .i64 c.T.len, .int .i64 c.T.speed, .int .i64 c.T.accel, .int .i64 c.T.service, .int .i64 c.T.emergency, .int .i64 c.T.delay, .int .i64 c.T.cons, .int .i64 c.T.rate, .int .i64 c.mode, .int .i64 c.brake, .int .i64 c.next, .int .i64 c.E.min, .int .i64 c.E.max, .int .i64 c.E.speed, .int .i64 c.seq, .int .i64 c.en, .slice A1 c.p.length c1, .slice L1 c.k.length d1, .int .i64 c.peer, .int .i64 c.out, .int .i64 si, .int .i64 sh, .bool c.known, .int .i64 c.since] [.int .i64 c.T.id, .string c.T.name, .int .i64 c.T.len, .int .i64 c.T.speed, .int .i64 c.T.accel, .int .i64 c.T.service, .int .i64 c.T.emergency, .int .i64 c.T.delay, .int .i64 c.T.cons, .int .i64 c.T.rate, .int .i64 c.mode, .int .i64 c.brake, .int .i64 c.next, .int .i64 c.E.min, .int .i64 c.E.max, .int .i64 c.E.speed, .int .i64 c.seq, .int .i64 c.en, .slice A1 c.p.length c1, .slice L1 c.k.length d1, .int .i64 c.peer, .int .i64 c.out, .int .i64 si, .int .i64 sh, .bool c.known, .int .i64 c.since] rfl rfl (HORv8.out) rfl szCab rfl (by show (0 + 26 : Nat) ≤ 26; decide) rfl ?_; intro w9 H9
            try (refine hK _ _ ?_; clear hK K)
            refine wpAny_go (rs := [7]) (by kernel_rfl) (by simp) (AllO.cons rfl rfl (fun K hK => ?_) (AllO.nil))
            go_wp2
            try (refine hK _ _ ?_; clear hK K)
            refine wpAny_end (by kernel_rfl) ?_
            go_wp2
            refine bodyPost_ret (res_ct (by rfl) (by rfl) (by rfl) H9.out.1.cells Tryd.underlying35 szCab) rfl ?_
            exact ⟨{ c with inn := si, heard := sh }, n, rfl, A1, c1, L1, d1, rfl, (HNAv8.out.only H9.out.2 (by omega)).mono (by omega), (HNLv8.out.only H9.out.2 (by omega)).mono (by omega), eonly HXv8.out H9.out.2 (by omega)⟩
        · refine wpo_ldN 35 [.int .i64 c.T.id, .string c.T.name, .int .i64 c.T.len, .int .i64 c.T.speed, .int .i64 c.T.accel, .int .i64 c.T.service, .int .i64 c.T.emergency, .int .i64 c.T.delay, .int .i64 c.T.cons, .int .i64 c.T.rate, .int .i64 c.mode, .int .i64 c.brake, .int .i64 c.next, .int .i64 c.E.min, .int .i64 c.E.max, .int .i64 c.E.speed, .int .i64 c.seq, .int .i64 c.en, .slice A1 c.p.length c1, .slice L1 c.k.length d1, .int .i64 c.peer, .int .i64 c.out, .int .i64 si, .int .i64 sh, .bool c.known, .int .i64 c.since] rfl rfl (HOCv6.out).cells Tryd.underlying35 szCab rfl ?_
          try (refine hK _ _ ?_; clear hK K)
          refine wpAny_go (rs := [1]) (by kernel_rfl) (by simp) (AllO.cons rfl rfl (fun K hK => ?_) (AllO.nil))
          go_wp2_with fail
          refine (HEC.out _).mono ?_
          rintro e we ⟨rfl, hbe⟩
          have HOCv7 := Lib.hid (HOCv6.out.keep hbe)
          have HOMv7 := Lib.hid (HOMv6.out.keep hbe)
          have HORv7 := Lib.hid (HORv6.out.keep hbe)
          have HNAv7 := Lib.hid (HNAv6.out.keep hbe)
          have HNLv7 := Lib.hid (HNLv6.out.keep hbe)
          have HXv7 := Lib.hid (etr HXv6.out hbe)
          clear hbe
          go_wp2
          try (refine hK _ _ ?_; clear hK K)
          refine wpAny_go (rs := [3]) (by kernel_rfl) (by simp) (AllO.cons rfl rfl (fun K hK => ?_) (AllO.nil))
          go_wp2_with fail
          refine (HG2.out si sh A1 L1 c1 d1 _ HXv7.out).mono ?_
          rintro e w8 ⟨n, rfl, hb⟩
          have zr := HORv7.out.1
          have HOCv8 := Lib.hid (HOCv7.out.keep hb)
          have HOMv8 := Lib.hid (HOMv7.out.keep hb)
          have HORv8 := Lib.hid (HORv7.out.keep hb)
          have HNAv8 := Lib.hid (HNAv7.out.keep hb)
          have HNLv8 := Lib.hid (HNLv7.out.keep hb)
          have HXv8 := Lib.hid (etr HXv7.out hb)
          clear hb
          go_wp2
          try (refine hK _ _ ?_; clear hK K)
          refine wpAny_go (rs := [4, 5]) (by kernel_rfl) (by simp) (AllO.cons rfl rfl (fun K hK => ?_) (AllO.cons rfl rfl (fun K hK => ?_) (AllO.nil)))
          · go_wp2
            try (refine hK _ _ ?_; clear hK K)
            refine wpAny_go (rs := [5]) (by kernel_rfl) (by simp) (AllO.cons rfl rfl (fun K hK => ?_) (AllO.nil))
            go_wp2
            try (refine hK _ _ ?_; clear hK K)
            refine wpAny_go (rs := [6]) (by kernel_rfl) (by simp) (AllO.cons rfl rfl (fun K hK => ?_) (AllO.nil))
            refine wpo_stN 35 [.int .i64 c.T.id, .string c.T.name, .int .i64 c.T.len, .int .i64 c.T.speed, .int .i64 c.T.accel, .int .i64 c.T.service, .int .i64 c.T.emergency, .int .i64 c.T.delay, .int .i64 c.T.cons, .int .i64 c.T.rate, .int .i64 c.mode, .int .i64 c.brake, .int .i64 c.next, .int .i64 c.E.min, .int .i64 c.E.max, .int .i64 c.E.speed, .int .i64 c.seq, .int .i64 c.en, .slice A1 c.p.length c1, .slice L1 c.k.length d1, .int .i64 c.peer, .int .i64 c.out, .int .i64 si, .int .i64 sh, .bool c.known, .int .i64 c.since] [.int .i64 c.T.id, .string c.T.name, .int .i64 c.T.len, .int .i64 c.T.speed, .int .i64 c.T.accel, .int .i64 c.T.service, .int .i64 c.T.emergency, .int .i64 c.T.delay, .int .i64 c.T.cons, .int .i64 c.T.rate, .int .i64 c.mode, .int .i64 c.brake, .int .i64 c.next, .int .i64 c.E.min, .int .i64 c.E.max, .int .i64 c.E.speed, .int .i64 c.seq, .int .i64 c.en, .slice A1 c.p.length c1, .slice L1 c.k.length d1, .int .i64 c.peer, .int .i64 c.out, .int .i64 si, .int .i64 sh, .bool c.known, .int .i64 c.since] rfl rfl (HORv8.out) rfl szCab rfl (by show (0 + 26 : Nat) ≤ 26; decide) rfl ?_; intro w9 H9
            try (refine hK _ _ ?_; clear hK K)
            refine wpAny_go (rs := [7]) (by kernel_rfl) (by simp) (AllO.cons rfl rfl (fun K hK => ?_) (AllO.nil))
            go_wp2
            try (refine hK _ _ ?_; clear hK K)
            refine wpAny_end (by kernel_rfl) ?_
            go_wp2
            refine bodyPost_ret (res_ct (by rfl) (by rfl) (by rfl) H9.out.1.cells Tryd.underlying35 szCab) rfl ?_
            exact ⟨{ c with inn := si, heard := sh }, n, rfl, A1, c1, L1, d1, rfl, (HNAv8.out.only H9.out.2 (by omega)).mono (by omega), (HNLv8.out.only H9.out.2 (by omega)).mono (by omega), eonly HXv8.out H9.out.2 (by omega)⟩
          · go_wp2
            try (refine hK _ _ ?_; clear hK K)
            refine wpAny_go (rs := [4]) (by kernel_rfl) (by simp) (AllO.cons rfl rfl (fun K hK => ?_) (AllO.nil))
            go_wp2
            try (refine hK _ _ ?_; clear hK K)
            refine wpAny_go (rs := [6]) (by kernel_rfl) (by simp) (AllO.cons rfl rfl (fun K hK => ?_) (AllO.nil))
            refine wpo_stN 35 [.int .i64 c.T.id, .string c.T.name, .int .i64 c.T.len, .int .i64 c.T.speed, .int .i64 c.T.accel, .int .i64 c.T.service, .int .i64 c.T.emergency, .int .i64 c.T.delay, .int .i64 c.T.cons, .int .i64 c.T.rate, .int .i64 c.mode, .int .i64 c.brake, .int .i64 c.next, .int .i64 c.E.min, .int .i64 c.E.max, .int .i64 c.E.speed, .int .i64 c.seq, .int .i64 c.en, .slice A1 c.p.length c1, .slice L1 c.k.length d1, .int .i64 c.peer, .int .i64 c.out, .int .i64 si, .int .i64 sh, .bool c.known, .int .i64 c.since] [.int .i64 c.T.id, .string c.T.name, .int .i64 c.T.len, .int .i64 c.T.speed, .int .i64 c.T.accel, .int .i64 c.T.service, .int .i64 c.T.emergency, .int .i64 c.T.delay, .int .i64 c.T.cons, .int .i64 c.T.rate, .int .i64 c.mode, .int .i64 c.brake, .int .i64 c.next, .int .i64 c.E.min, .int .i64 c.E.max, .int .i64 c.E.speed, .int .i64 c.seq, .int .i64 c.en, .slice A1 c.p.length c1, .slice L1 c.k.length d1, .int .i64 c.peer, .int .i64 c.out, .int .i64 si, .int .i64 sh, .bool c.known, .int .i64 c.since] rfl rfl (HORv8.out) rfl szCab rfl (by show (0 + 26 : Nat) ≤ 26; decide) rfl ?_; intro w9 H9
            try (refine hK _ _ ?_; clear hK K)
            refine wpAny_go (rs := [7]) (by kernel_rfl) (by simp) (AllO.cons rfl rfl (fun K hK => ?_) (AllO.nil))
            go_wp2
            try (refine hK _ _ ?_; clear hK K)
            refine wpAny_end (by kernel_rfl) ?_
            go_wp2
            refine bodyPost_ret (res_ct (by rfl) (by rfl) (by rfl) H9.out.1.cells Tryd.underlying35 szCab) rfl ?_
            exact ⟨{ c with inn := si, heard := sh }, n, rfl, A1, c1, L1, d1, rfl, (HNAv8.out.only H9.out.2 (by omega)).mono (by omega), (HNLv8.out.only H9.out.2 (by omega)).mono (by omega), eonly HXv8.out H9.out.2 (by omega)⟩
      · refine wpo_ldN 35 [.int .i64 c.T.id, .string c.T.name, .int .i64 c.T.len, .int .i64 c.T.speed, .int .i64 c.T.accel, .int .i64 c.T.service, .int .i64 c.T.emergency, .int .i64 c.T.delay, .int .i64 c.T.cons, .int .i64 c.T.rate, .int .i64 c.mode, .int .i64 c.brake, .int .i64 c.next, .int .i64 c.E.min, .int .i64 c.E.max, .int .i64 c.E.speed, .int .i64 c.seq, .int .i64 c.en, .slice A1 c.p.length c1, .slice L1 c.k.length d1, .int .i64 c.peer, .int .i64 c.out, .int .i64 si, .int .i64 sh, .bool c.known, .int .i64 c.since] rfl rfl (HOCv6.out).cells Tryd.underlying35 szCab rfl ?_
        try (refine hK _ _ ?_; clear hK K)
        refine wpAny_go (rs := [0]) (by kernel_rfl) (by simp) (AllO.cons rfl rfl (fun K hK => ?_) (AllO.nil))
        refine wpo_ldN 39 [.int .i64 m.kind, .int .i64 m.frm, .int .i64 m.to_, .int .i64 m.seq, .int .i64 m.time, .int .i64 m.aseq, .int .i64 m.aen, .slice B m.p.length cb, .slice D m.k.length ck, .int .i64 m.rmin, .int .i64 m.rspeed, .int .i64 m.rmode, .int .i64 m.racc, .bool m.rwhole] rfl rfl (HOMv6.out).cells Tryd.underlying39 szMsg rfl ?_
        try (refine hK _ _ ?_; clear hK K)
        refine wpAny_go (rs := [1]) (by kernel_rfl) (by simp) (AllO.cons rfl rfl (fun K hK => ?_) (AllO.nil))
        go_wp2_with fail
        refine (HEC.out _).mono ?_
        rintro e we ⟨rfl, hbe⟩
        have HOCv7 := Lib.hid (HOCv6.out.keep hbe)
        have HOMv7 := Lib.hid (HOMv6.out.keep hbe)
        have HORv7 := Lib.hid (HORv6.out.keep hbe)
        have HNAv7 := Lib.hid (HNAv6.out.keep hbe)
        have HNLv7 := Lib.hid (HNLv6.out.keep hbe)
        have HXv7 := Lib.hid (etr HXv6.out hbe)
        clear hbe
        go_wp2
        try (refine hK _ _ ?_; clear hK K)
        refine wpAny_go (rs := [3]) (by kernel_rfl) (by simp) (AllO.cons rfl rfl (fun K hK => ?_) (AllO.nil))
        go_wp2_with fail
        refine (HG2.out si sh A1 L1 c1 d1 _ HXv7.out).mono ?_
        rintro e w8 ⟨n, rfl, hb⟩
        have zr := HORv7.out.1
        have HOCv8 := Lib.hid (HOCv7.out.keep hb)
        have HOMv8 := Lib.hid (HOMv7.out.keep hb)
        have HORv8 := Lib.hid (HORv7.out.keep hb)
        have HNAv8 := Lib.hid (HNAv7.out.keep hb)
        have HNLv8 := Lib.hid (HNLv7.out.keep hb)
        have HXv8 := Lib.hid (etr HXv7.out hb)
        clear hb
        go_wp2
        try (refine hK _ _ ?_; clear hK K)
        refine wpAny_go (rs := [4, 5]) (by kernel_rfl) (by simp) (AllO.cons rfl rfl (fun K hK => ?_) (AllO.cons rfl rfl (fun K hK => ?_) (AllO.nil)))
        · go_wp2
          try (refine hK _ _ ?_; clear hK K)
          refine wpAny_go (rs := [5]) (by kernel_rfl) (by simp) (AllO.cons rfl rfl (fun K hK => ?_) (AllO.nil))
          go_wp2
          try (refine hK _ _ ?_; clear hK K)
          refine wpAny_go (rs := [6]) (by kernel_rfl) (by simp) (AllO.cons rfl rfl (fun K hK => ?_) (AllO.nil))
          refine wpo_stN 35 [.int .i64 c.T.id, .string c.T.name, .int .i64 c.T.len, .int .i64 c.T.speed, .int .i64 c.T.accel, .int .i64 c.T.service, .int .i64 c.T.emergency, .int .i64 c.T.delay, .int .i64 c.T.cons, .int .i64 c.T.rate, .int .i64 c.mode, .int .i64 c.brake, .int .i64 c.next, .int .i64 c.E.min, .int .i64 c.E.max, .int .i64 c.E.speed, .int .i64 c.seq, .int .i64 c.en, .slice A1 c.p.length c1, .slice L1 c.k.length d1, .int .i64 c.peer, .int .i64 c.out, .int .i64 si, .int .i64 sh, .bool c.known, .int .i64 c.since] [.int .i64 c.T.id, .string c.T.name, .int .i64 c.T.len, .int .i64 c.T.speed, .int .i64 c.T.accel, .int .i64 c.T.service, .int .i64 c.T.emergency, .int .i64 c.T.delay, .int .i64 c.T.cons, .int .i64 c.T.rate, .int .i64 c.mode, .int .i64 c.brake, .int .i64 c.next, .int .i64 c.E.min, .int .i64 c.E.max, .int .i64 c.E.speed, .int .i64 c.seq, .int .i64 c.en, .slice A1 c.p.length c1, .slice L1 c.k.length d1, .int .i64 c.peer, .int .i64 c.out, .int .i64 si, .int .i64 sh, .bool c.known, .int .i64 c.since] rfl rfl (HORv8.out) rfl szCab rfl (by show (0 + 26 : Nat) ≤ 26; decide) rfl ?_; intro w9 H9
          try (refine hK _ _ ?_; clear hK K)
          refine wpAny_go (rs := [7]) (by kernel_rfl) (by simp) (AllO.cons rfl rfl (fun K hK => ?_) (AllO.nil))
          go_wp2
          try (refine hK _ _ ?_; clear hK K)
          refine wpAny_end (by kernel_rfl) ?_
          go_wp2
          refine bodyPost_ret (res_ct (by rfl) (by rfl) (by rfl) H9.out.1.cells Tryd.underlying35 szCab) rfl ?_
          exact ⟨{ c with inn := si, heard := sh }, n, rfl, A1, c1, L1, d1, rfl, (HNAv8.out.only H9.out.2 (by omega)).mono (by omega), (HNLv8.out.only H9.out.2 (by omega)).mono (by omega), eonly HXv8.out H9.out.2 (by omega)⟩
        · go_wp2
          try (refine hK _ _ ?_; clear hK K)
          refine wpAny_go (rs := [4]) (by kernel_rfl) (by simp) (AllO.cons rfl rfl (fun K hK => ?_) (AllO.nil))
          go_wp2
          try (refine hK _ _ ?_; clear hK K)
          refine wpAny_go (rs := [6]) (by kernel_rfl) (by simp) (AllO.cons rfl rfl (fun K hK => ?_) (AllO.nil))
          refine wpo_stN 35 [.int .i64 c.T.id, .string c.T.name, .int .i64 c.T.len, .int .i64 c.T.speed, .int .i64 c.T.accel, .int .i64 c.T.service, .int .i64 c.T.emergency, .int .i64 c.T.delay, .int .i64 c.T.cons, .int .i64 c.T.rate, .int .i64 c.mode, .int .i64 c.brake, .int .i64 c.next, .int .i64 c.E.min, .int .i64 c.E.max, .int .i64 c.E.speed, .int .i64 c.seq, .int .i64 c.en, .slice A1 c.p.length c1, .slice L1 c.k.length d1, .int .i64 c.peer, .int .i64 c.out, .int .i64 si, .int .i64 sh, .bool c.known, .int .i64 c.since] [.int .i64 c.T.id, .string c.T.name, .int .i64 c.T.len, .int .i64 c.T.speed, .int .i64 c.T.accel, .int .i64 c.T.service, .int .i64 c.T.emergency, .int .i64 c.T.delay, .int .i64 c.T.cons, .int .i64 c.T.rate, .int .i64 c.mode, .int .i64 c.brake, .int .i64 c.next, .int .i64 c.E.min, .int .i64 c.E.max, .int .i64 c.E.speed, .int .i64 c.seq, .int .i64 c.en, .slice A1 c.p.length c1, .slice L1 c.k.length d1, .int .i64 c.peer, .int .i64 c.out, .int .i64 si, .int .i64 sh, .bool c.known, .int .i64 c.since] rfl rfl (HORv8.out) rfl szCab rfl (by show (0 + 26 : Nat) ≤ 26; decide) rfl ?_; intro w9 H9
          try (refine hK _ _ ?_; clear hK K)
          refine wpAny_go (rs := [7]) (by kernel_rfl) (by simp) (AllO.cons rfl rfl (fun K hK => ?_) (AllO.nil))
          go_wp2
          try (refine hK _ _ ?_; clear hK K)
          refine wpAny_end (by kernel_rfl) ?_
          go_wp2
          refine bodyPost_ret (res_ct (by rfl) (by rfl) (by rfl) H9.out.1.cells Tryd.underlying35 szCab) rfl ?_
          exact ⟨{ c with inn := si, heard := sh }, n, rfl, A1, c1, L1, d1, rfl, (HNAv8.out.only H9.out.2 (by omega)).mono (by omega), (HNLv8.out.only H9.out.2 (by omega)).mono (by omega), eonly HXv8.out H9.out.2 (by omega)⟩
    · have HEC := Lib.hid he
      clear he HEK
      have hm : ∀ x : World, (method 271 114 (.agg #[.int .i64 m.aseq, .int .i64 m.aen, .slice B m.p.length cb, .slice D m.k.length ck, .bool true]) "signalling/cab.apply").run Tryd.prog x = .ok (149, .agg #[.int .i64 m.aseq, .int .i64 m.aen, .slice B m.p.length cb, .slice D m.k.length ck, .bool true]) x := fun _ => by kernel_rfl
      go_upto_region 6 with (first | (refine wp_ldN 31 [.int .i64 c.peer, .int .i64 c.out, .int .i64 si, .int .i64 sh] rfl rfl rfl (HOS5.out).cells Tryd.underlying31 szSes rfl ?_) | (refine wp_stN 31 [.int .i64 c.T.id, .string c.T.name, .int .i64 c.T.len, .int .i64 c.T.speed, .int .i64 c.T.accel, .int .i64 c.T.service, .int .i64 c.T.emergency, .int .i64 c.T.delay, .int .i64 c.T.cons, .int .i64 c.T.rate, .int .i64 c.mode, .int .i64 c.brake, .int .i64 c.next, .int .i64 c.E.min, .int .i64 c.E.max, .int .i64 c.E.speed, .int .i64 c.seq, .int .i64 c.en, .slice A1 c.p.length c1, .slice L1 c.k.length d1, .int .i64 c.peer, .int .i64 c.out, .int .i64 si, .int .i64 sh, .bool c.known, .int .i64 c.since] [.int .i64 c.peer, .int .i64 c.out, .int .i64 si, .int .i64 sh] rfl rfl rfl (HOCv4.out) rfl szSes rfl (by show (20 + 4 : Nat) ≤ 26; decide) rfl ?_; intro w6 H6))
      have HOCv5 := Lib.hid (H6.out.1)
      have HOMv5 := Lib.hid (HOMv4.out.only H6.out.2 (by omega))
      have HORv5 := Lib.hid (HORv4.out.only H6.out.2 (by omega))
      have HNAv5 := Lib.hid (HNAv4.out.only H6.out.2 (by omega))
      have HNLv5 := Lib.hid (HNLv4.out.only H6.out.2 (by omega))
      have HXv5 := Lib.hid (eonly HXv4.out H6.out.2 (by omega))
      clear H6
      refine wp_region_orders 8 rfl (by kernel_rfl) (fun wd hwd => ?_)
      have HOCv6 := Lib.hid (HOCv5.out.keep hwd)
      have HOMv6 := Lib.hid (HOMv5.out.keep hwd)
      have HORv6 := Lib.hid (HORv5.out.keep hwd)
      have HNAv6 := Lib.hid (HNAv5.out.keep hwd)
      have HNLv6 := Lib.hid (HNLv5.out.keep hwd)
      have HXv6 := Lib.hid (etr HXv5.out hwd)
      clear hwd
      dsimp only [Act.put]
      refine wpAny_go (rs := [0, 2]) (by kernel_rfl) (by simp) (AllO.cons rfl rfl (fun K hK => ?_) (AllO.cons rfl rfl (fun K hK => ?_) (AllO.nil)))
      · refine wpo_ldN 39 [.int .i64 m.kind, .int .i64 m.frm, .int .i64 m.to_, .int .i64 m.seq, .int .i64 m.time, .int .i64 m.aseq, .int .i64 m.aen, .slice B m.p.length cb, .slice D m.k.length ck, .int .i64 m.rmin, .int .i64 m.rspeed, .int .i64 m.rmode, .int .i64 m.racc, .bool m.rwhole] rfl rfl (HOMv6.out).cells Tryd.underlying39 szMsg rfl ?_
        try (refine hK _ _ ?_; clear hK K)
        refine wpAny_go (rs := [1, 2]) (by kernel_rfl) (by simp) (AllO.cons rfl rfl (fun K hK => ?_) (AllO.cons rfl rfl (fun K hK => ?_) (AllO.nil)))
        · go_wp2_with fail
          refine (HEC.out _).mono ?_
          rintro e we ⟨rfl, hbe⟩
          have HOCv7 := Lib.hid (HOCv6.out.keep hbe)
          have HOMv7 := Lib.hid (HOMv6.out.keep hbe)
          have HORv7 := Lib.hid (HORv6.out.keep hbe)
          have HNAv7 := Lib.hid (HNAv6.out.keep hbe)
          have HNLv7 := Lib.hid (HNLv6.out.keep hbe)
          have HXv7 := Lib.hid (etr HXv6.out hbe)
          clear hbe
          go_wp2
          try (refine hK _ _ ?_; clear hK K)
          refine wpAny_go (rs := [2]) (by kernel_rfl) (by simp) (AllO.cons rfl rfl (fun K hK => ?_) (AllO.nil))
          refine wpo_ldN 35 [.int .i64 c.T.id, .string c.T.name, .int .i64 c.T.len, .int .i64 c.T.speed, .int .i64 c.T.accel, .int .i64 c.T.service, .int .i64 c.T.emergency, .int .i64 c.T.delay, .int .i64 c.T.cons, .int .i64 c.T.rate, .int .i64 c.mode, .int .i64 c.brake, .int .i64 c.next, .int .i64 c.E.min, .int .i64 c.E.max, .int .i64 c.E.speed, .int .i64 c.seq, .int .i64 c.en, .slice A1 c.p.length c1, .slice L1 c.k.length d1, .int .i64 c.peer, .int .i64 c.out, .int .i64 si, .int .i64 sh, .bool c.known, .int .i64 c.since] rfl rfl (HOCv7.out).cells Tryd.underlying35 szCab rfl ?_
          try (refine hK _ _ ?_; clear hK K)
          refine wpAny_go (rs := [3]) (by kernel_rfl) (by simp) (AllO.cons rfl rfl (fun K hK => ?_) (AllO.nil))
          go_wp2_with fail
          refine (HG3.out si sh A1 L1 c1 d1 _ HXv7.out).mono ?_
          rintro e w8 ⟨n, rfl, hb⟩
          have zr := HORv7.out.1
          have HOCv8 := Lib.hid (HOCv7.out.keep hb)
          have HOMv8 := Lib.hid (HOMv7.out.keep hb)
          have HORv8 := Lib.hid (HORv7.out.keep hb)
          have HNAv8 := Lib.hid (HNAv7.out.keep hb)
          have HNLv8 := Lib.hid (HNLv7.out.keep hb)
          have HXv8 := Lib.hid (etr HXv7.out hb)
          clear hb
          go_wp2
          try (refine hK _ _ ?_; clear hK K)
          refine wpAny_go (rs := [4, 5]) (by kernel_rfl) (by simp) (AllO.cons rfl rfl (fun K hK => ?_) (AllO.cons rfl rfl (fun K hK => ?_) (AllO.nil)))
          · go_wp2
            try (refine hK _ _ ?_; clear hK K)
            refine wpAny_go (rs := [5]) (by kernel_rfl) (by simp) (AllO.cons rfl rfl (fun K hK => ?_) (AllO.nil))
            go_wp2
            try (refine hK _ _ ?_; clear hK K)
            refine wpAny_go (rs := [6]) (by kernel_rfl) (by simp) (AllO.cons rfl rfl (fun K hK => ?_) (AllO.nil))
            refine wpo_stN 35 [.int .i64 c.T.id, .string c.T.name, .int .i64 c.T.len, .int .i64 c.T.speed, .int .i64 c.T.accel, .int .i64 c.T.service, .int .i64 c.T.emergency, .int .i64 c.T.delay, .int .i64 c.T.cons, .int .i64 c.T.rate, .int .i64 c.mode, .int .i64 c.brake, .int .i64 c.next, .int .i64 c.E.min, .int .i64 c.E.max, .int .i64 c.E.speed, .int .i64 c.seq, .int .i64 c.en, .slice A1 c.p.length c1, .slice L1 c.k.length d1, .int .i64 c.peer, .int .i64 c.out, .int .i64 si, .int .i64 sh, .bool c.known, .int .i64 c.since] [.int .i64 c.T.id, .string c.T.name, .int .i64 c.T.len, .int .i64 c.T.speed, .int .i64 c.T.accel, .int .i64 c.T.service, .int .i64 c.T.emergency, .int .i64 c.T.delay, .int .i64 c.T.cons, .int .i64 c.T.rate, .int .i64 c.mode, .int .i64 c.brake, .int .i64 c.next, .int .i64 c.E.min, .int .i64 c.E.max, .int .i64 c.E.speed, .int .i64 c.seq, .int .i64 c.en, .slice A1 c.p.length c1, .slice L1 c.k.length d1, .int .i64 c.peer, .int .i64 c.out, .int .i64 si, .int .i64 sh, .bool c.known, .int .i64 c.since] rfl rfl (HORv8.out) rfl szCab rfl (by show (0 + 26 : Nat) ≤ 26; decide) rfl ?_; intro w9 H9
            try (refine hK _ _ ?_; clear hK K)
            refine wpAny_go (rs := [7]) (by kernel_rfl) (by simp) (AllO.cons rfl rfl (fun K hK => ?_) (AllO.nil))
            go_wp2
            try (refine hK _ _ ?_; clear hK K)
            refine wpAny_end (by kernel_rfl) ?_
            go_wp2
            refine bodyPost_ret (res_ct (by rfl) (by rfl) (by rfl) H9.out.1.cells Tryd.underlying35 szCab) rfl ?_
            exact ⟨{ c with inn := si, heard := sh }, n, rfl, A1, c1, L1, d1, rfl, (HNAv8.out.only H9.out.2 (by omega)).mono (by omega), (HNLv8.out.only H9.out.2 (by omega)).mono (by omega), eonly HXv8.out H9.out.2 (by omega)⟩
          · go_wp2
            try (refine hK _ _ ?_; clear hK K)
            refine wpAny_go (rs := [4]) (by kernel_rfl) (by simp) (AllO.cons rfl rfl (fun K hK => ?_) (AllO.nil))
            go_wp2
            try (refine hK _ _ ?_; clear hK K)
            refine wpAny_go (rs := [6]) (by kernel_rfl) (by simp) (AllO.cons rfl rfl (fun K hK => ?_) (AllO.nil))
            refine wpo_stN 35 [.int .i64 c.T.id, .string c.T.name, .int .i64 c.T.len, .int .i64 c.T.speed, .int .i64 c.T.accel, .int .i64 c.T.service, .int .i64 c.T.emergency, .int .i64 c.T.delay, .int .i64 c.T.cons, .int .i64 c.T.rate, .int .i64 c.mode, .int .i64 c.brake, .int .i64 c.next, .int .i64 c.E.min, .int .i64 c.E.max, .int .i64 c.E.speed, .int .i64 c.seq, .int .i64 c.en, .slice A1 c.p.length c1, .slice L1 c.k.length d1, .int .i64 c.peer, .int .i64 c.out, .int .i64 si, .int .i64 sh, .bool c.known, .int .i64 c.since] [.int .i64 c.T.id, .string c.T.name, .int .i64 c.T.len, .int .i64 c.T.speed, .int .i64 c.T.accel, .int .i64 c.T.service, .int .i64 c.T.emergency, .int .i64 c.T.delay, .int .i64 c.T.cons, .int .i64 c.T.rate, .int .i64 c.mode, .int .i64 c.brake, .int .i64 c.next, .int .i64 c.E.min, .int .i64 c.E.max, .int .i64 c.E.speed, .int .i64 c.seq, .int .i64 c.en, .slice A1 c.p.length c1, .slice L1 c.k.length d1, .int .i64 c.peer, .int .i64 c.out, .int .i64 si, .int .i64 sh, .bool c.known, .int .i64 c.since] rfl rfl (HORv8.out) rfl szCab rfl (by show (0 + 26 : Nat) ≤ 26; decide) rfl ?_; intro w9 H9
            try (refine hK _ _ ?_; clear hK K)
            refine wpAny_go (rs := [7]) (by kernel_rfl) (by simp) (AllO.cons rfl rfl (fun K hK => ?_) (AllO.nil))
            go_wp2
            try (refine hK _ _ ?_; clear hK K)
            refine wpAny_end (by kernel_rfl) ?_
            go_wp2
            refine bodyPost_ret (res_ct (by rfl) (by rfl) (by rfl) H9.out.1.cells Tryd.underlying35 szCab) rfl ?_
            exact ⟨{ c with inn := si, heard := sh }, n, rfl, A1, c1, L1, d1, rfl, (HNAv8.out.only H9.out.2 (by omega)).mono (by omega), (HNLv8.out.only H9.out.2 (by omega)).mono (by omega), eonly HXv8.out H9.out.2 (by omega)⟩
        · refine wpo_ldN 35 [.int .i64 c.T.id, .string c.T.name, .int .i64 c.T.len, .int .i64 c.T.speed, .int .i64 c.T.accel, .int .i64 c.T.service, .int .i64 c.T.emergency, .int .i64 c.T.delay, .int .i64 c.T.cons, .int .i64 c.T.rate, .int .i64 c.mode, .int .i64 c.brake, .int .i64 c.next, .int .i64 c.E.min, .int .i64 c.E.max, .int .i64 c.E.speed, .int .i64 c.seq, .int .i64 c.en, .slice A1 c.p.length c1, .slice L1 c.k.length d1, .int .i64 c.peer, .int .i64 c.out, .int .i64 si, .int .i64 sh, .bool c.known, .int .i64 c.since] rfl rfl (HOCv6.out).cells Tryd.underlying35 szCab rfl ?_
          try (refine hK _ _ ?_; clear hK K)
          refine wpAny_go (rs := [1]) (by kernel_rfl) (by simp) (AllO.cons rfl rfl (fun K hK => ?_) (AllO.nil))
          go_wp2_with fail
          refine (HEC.out _).mono ?_
          rintro e we ⟨rfl, hbe⟩
          have HOCv7 := Lib.hid (HOCv6.out.keep hbe)
          have HOMv7 := Lib.hid (HOMv6.out.keep hbe)
          have HORv7 := Lib.hid (HORv6.out.keep hbe)
          have HNAv7 := Lib.hid (HNAv6.out.keep hbe)
          have HNLv7 := Lib.hid (HNLv6.out.keep hbe)
          have HXv7 := Lib.hid (etr HXv6.out hbe)
          clear hbe
          go_wp2
          try (refine hK _ _ ?_; clear hK K)
          refine wpAny_go (rs := [3]) (by kernel_rfl) (by simp) (AllO.cons rfl rfl (fun K hK => ?_) (AllO.nil))
          go_wp2_with fail
          refine (HG3.out si sh A1 L1 c1 d1 _ HXv7.out).mono ?_
          rintro e w8 ⟨n, rfl, hb⟩
          have zr := HORv7.out.1
          have HOCv8 := Lib.hid (HOCv7.out.keep hb)
          have HOMv8 := Lib.hid (HOMv7.out.keep hb)
          have HORv8 := Lib.hid (HORv7.out.keep hb)
          have HNAv8 := Lib.hid (HNAv7.out.keep hb)
          have HNLv8 := Lib.hid (HNLv7.out.keep hb)
          have HXv8 := Lib.hid (etr HXv7.out hb)
          clear hb
          go_wp2
          try (refine hK _ _ ?_; clear hK K)
          refine wpAny_go (rs := [4, 5]) (by kernel_rfl) (by simp) (AllO.cons rfl rfl (fun K hK => ?_) (AllO.cons rfl rfl (fun K hK => ?_) (AllO.nil)))
          · go_wp2
            try (refine hK _ _ ?_; clear hK K)
            refine wpAny_go (rs := [5]) (by kernel_rfl) (by simp) (AllO.cons rfl rfl (fun K hK => ?_) (AllO.nil))
            go_wp2
            try (refine hK _ _ ?_; clear hK K)
            refine wpAny_go (rs := [6]) (by kernel_rfl) (by simp) (AllO.cons rfl rfl (fun K hK => ?_) (AllO.nil))
            refine wpo_stN 35 [.int .i64 c.T.id, .string c.T.name, .int .i64 c.T.len, .int .i64 c.T.speed, .int .i64 c.T.accel, .int .i64 c.T.service, .int .i64 c.T.emergency, .int .i64 c.T.delay, .int .i64 c.T.cons, .int .i64 c.T.rate, .int .i64 c.mode, .int .i64 c.brake, .int .i64 c.next, .int .i64 c.E.min, .int .i64 c.E.max, .int .i64 c.E.speed, .int .i64 c.seq, .int .i64 c.en, .slice A1 c.p.length c1, .slice L1 c.k.length d1, .int .i64 c.peer, .int .i64 c.out, .int .i64 si, .int .i64 sh, .bool c.known, .int .i64 c.since] [.int .i64 c.T.id, .string c.T.name, .int .i64 c.T.len, .int .i64 c.T.speed, .int .i64 c.T.accel, .int .i64 c.T.service, .int .i64 c.T.emergency, .int .i64 c.T.delay, .int .i64 c.T.cons, .int .i64 c.T.rate, .int .i64 c.mode, .int .i64 c.brake, .int .i64 c.next, .int .i64 c.E.min, .int .i64 c.E.max, .int .i64 c.E.speed, .int .i64 c.seq, .int .i64 c.en, .slice A1 c.p.length c1, .slice L1 c.k.length d1, .int .i64 c.peer, .int .i64 c.out, .int .i64 si, .int .i64 sh, .bool c.known, .int .i64 c.since] rfl rfl (HORv8.out) rfl szCab rfl (by show (0 + 26 : Nat) ≤ 26; decide) rfl ?_; intro w9 H9
            try (refine hK _ _ ?_; clear hK K)
            refine wpAny_go (rs := [7]) (by kernel_rfl) (by simp) (AllO.cons rfl rfl (fun K hK => ?_) (AllO.nil))
            go_wp2
            try (refine hK _ _ ?_; clear hK K)
            refine wpAny_end (by kernel_rfl) ?_
            go_wp2
            refine bodyPost_ret (res_ct (by rfl) (by rfl) (by rfl) H9.out.1.cells Tryd.underlying35 szCab) rfl ?_
            exact ⟨{ c with inn := si, heard := sh }, n, rfl, A1, c1, L1, d1, rfl, (HNAv8.out.only H9.out.2 (by omega)).mono (by omega), (HNLv8.out.only H9.out.2 (by omega)).mono (by omega), eonly HXv8.out H9.out.2 (by omega)⟩
          · go_wp2
            try (refine hK _ _ ?_; clear hK K)
            refine wpAny_go (rs := [4]) (by kernel_rfl) (by simp) (AllO.cons rfl rfl (fun K hK => ?_) (AllO.nil))
            go_wp2
            try (refine hK _ _ ?_; clear hK K)
            refine wpAny_go (rs := [6]) (by kernel_rfl) (by simp) (AllO.cons rfl rfl (fun K hK => ?_) (AllO.nil))
            refine wpo_stN 35 [.int .i64 c.T.id, .string c.T.name, .int .i64 c.T.len, .int .i64 c.T.speed, .int .i64 c.T.accel, .int .i64 c.T.service, .int .i64 c.T.emergency, .int .i64 c.T.delay, .int .i64 c.T.cons, .int .i64 c.T.rate, .int .i64 c.mode, .int .i64 c.brake, .int .i64 c.next, .int .i64 c.E.min, .int .i64 c.E.max, .int .i64 c.E.speed, .int .i64 c.seq, .int .i64 c.en, .slice A1 c.p.length c1, .slice L1 c.k.length d1, .int .i64 c.peer, .int .i64 c.out, .int .i64 si, .int .i64 sh, .bool c.known, .int .i64 c.since] [.int .i64 c.T.id, .string c.T.name, .int .i64 c.T.len, .int .i64 c.T.speed, .int .i64 c.T.accel, .int .i64 c.T.service, .int .i64 c.T.emergency, .int .i64 c.T.delay, .int .i64 c.T.cons, .int .i64 c.T.rate, .int .i64 c.mode, .int .i64 c.brake, .int .i64 c.next, .int .i64 c.E.min, .int .i64 c.E.max, .int .i64 c.E.speed, .int .i64 c.seq, .int .i64 c.en, .slice A1 c.p.length c1, .slice L1 c.k.length d1, .int .i64 c.peer, .int .i64 c.out, .int .i64 si, .int .i64 sh, .bool c.known, .int .i64 c.since] rfl rfl (HORv8.out) rfl szCab rfl (by show (0 + 26 : Nat) ≤ 26; decide) rfl ?_; intro w9 H9
            try (refine hK _ _ ?_; clear hK K)
            refine wpAny_go (rs := [7]) (by kernel_rfl) (by simp) (AllO.cons rfl rfl (fun K hK => ?_) (AllO.nil))
            go_wp2
            try (refine hK _ _ ?_; clear hK K)
            refine wpAny_end (by kernel_rfl) ?_
            go_wp2
            refine bodyPost_ret (res_ct (by rfl) (by rfl) (by rfl) H9.out.1.cells Tryd.underlying35 szCab) rfl ?_
            exact ⟨{ c with inn := si, heard := sh }, n, rfl, A1, c1, L1, d1, rfl, (HNAv8.out.only H9.out.2 (by omega)).mono (by omega), (HNLv8.out.only H9.out.2 (by omega)).mono (by omega), eonly HXv8.out H9.out.2 (by omega)⟩
      · refine wpo_ldN 35 [.int .i64 c.T.id, .string c.T.name, .int .i64 c.T.len, .int .i64 c.T.speed, .int .i64 c.T.accel, .int .i64 c.T.service, .int .i64 c.T.emergency, .int .i64 c.T.delay, .int .i64 c.T.cons, .int .i64 c.T.rate, .int .i64 c.mode, .int .i64 c.brake, .int .i64 c.next, .int .i64 c.E.min, .int .i64 c.E.max, .int .i64 c.E.speed, .int .i64 c.seq, .int .i64 c.en, .slice A1 c.p.length c1, .slice L1 c.k.length d1, .int .i64 c.peer, .int .i64 c.out, .int .i64 si, .int .i64 sh, .bool c.known, .int .i64 c.since] rfl rfl (HOCv6.out).cells Tryd.underlying35 szCab rfl ?_
        try (refine hK _ _ ?_; clear hK K)
        refine wpAny_go (rs := [0]) (by kernel_rfl) (by simp) (AllO.cons rfl rfl (fun K hK => ?_) (AllO.nil))
        refine wpo_ldN 39 [.int .i64 m.kind, .int .i64 m.frm, .int .i64 m.to_, .int .i64 m.seq, .int .i64 m.time, .int .i64 m.aseq, .int .i64 m.aen, .slice B m.p.length cb, .slice D m.k.length ck, .int .i64 m.rmin, .int .i64 m.rspeed, .int .i64 m.rmode, .int .i64 m.racc, .bool m.rwhole] rfl rfl (HOMv6.out).cells Tryd.underlying39 szMsg rfl ?_
        try (refine hK _ _ ?_; clear hK K)
        refine wpAny_go (rs := [1]) (by kernel_rfl) (by simp) (AllO.cons rfl rfl (fun K hK => ?_) (AllO.nil))
        go_wp2_with fail
        refine (HEC.out _).mono ?_
        rintro e we ⟨rfl, hbe⟩
        have HOCv7 := Lib.hid (HOCv6.out.keep hbe)
        have HOMv7 := Lib.hid (HOMv6.out.keep hbe)
        have HORv7 := Lib.hid (HORv6.out.keep hbe)
        have HNAv7 := Lib.hid (HNAv6.out.keep hbe)
        have HNLv7 := Lib.hid (HNLv6.out.keep hbe)
        have HXv7 := Lib.hid (etr HXv6.out hbe)
        clear hbe
        go_wp2
        try (refine hK _ _ ?_; clear hK K)
        refine wpAny_go (rs := [3]) (by kernel_rfl) (by simp) (AllO.cons rfl rfl (fun K hK => ?_) (AllO.nil))
        go_wp2_with fail
        refine (HG3.out si sh A1 L1 c1 d1 _ HXv7.out).mono ?_
        rintro e w8 ⟨n, rfl, hb⟩
        have zr := HORv7.out.1
        have HOCv8 := Lib.hid (HOCv7.out.keep hb)
        have HOMv8 := Lib.hid (HOMv7.out.keep hb)
        have HORv8 := Lib.hid (HORv7.out.keep hb)
        have HNAv8 := Lib.hid (HNAv7.out.keep hb)
        have HNLv8 := Lib.hid (HNLv7.out.keep hb)
        have HXv8 := Lib.hid (etr HXv7.out hb)
        clear hb
        go_wp2
        try (refine hK _ _ ?_; clear hK K)
        refine wpAny_go (rs := [4, 5]) (by kernel_rfl) (by simp) (AllO.cons rfl rfl (fun K hK => ?_) (AllO.cons rfl rfl (fun K hK => ?_) (AllO.nil)))
        · go_wp2
          try (refine hK _ _ ?_; clear hK K)
          refine wpAny_go (rs := [5]) (by kernel_rfl) (by simp) (AllO.cons rfl rfl (fun K hK => ?_) (AllO.nil))
          go_wp2
          try (refine hK _ _ ?_; clear hK K)
          refine wpAny_go (rs := [6]) (by kernel_rfl) (by simp) (AllO.cons rfl rfl (fun K hK => ?_) (AllO.nil))
          refine wpo_stN 35 [.int .i64 c.T.id, .string c.T.name, .int .i64 c.T.len, .int .i64 c.T.speed, .int .i64 c.T.accel, .int .i64 c.T.service, .int .i64 c.T.emergency, .int .i64 c.T.delay, .int .i64 c.T.cons, .int .i64 c.T.rate, .int .i64 c.mode, .int .i64 c.brake, .int .i64 c.next, .int .i64 c.E.min, .int .i64 c.E.max, .int .i64 c.E.speed, .int .i64 c.seq, .int .i64 c.en, .slice A1 c.p.length c1, .slice L1 c.k.length d1, .int .i64 c.peer, .int .i64 c.out, .int .i64 si, .int .i64 sh, .bool c.known, .int .i64 c.since] [.int .i64 c.T.id, .string c.T.name, .int .i64 c.T.len, .int .i64 c.T.speed, .int .i64 c.T.accel, .int .i64 c.T.service, .int .i64 c.T.emergency, .int .i64 c.T.delay, .int .i64 c.T.cons, .int .i64 c.T.rate, .int .i64 c.mode, .int .i64 c.brake, .int .i64 c.next, .int .i64 c.E.min, .int .i64 c.E.max, .int .i64 c.E.speed, .int .i64 c.seq, .int .i64 c.en, .slice A1 c.p.length c1, .slice L1 c.k.length d1, .int .i64 c.peer, .int .i64 c.out, .int .i64 si, .int .i64 sh, .bool c.known, .int .i64 c.since] rfl rfl (HORv8.out) rfl szCab rfl (by show (0 + 26 : Nat) ≤ 26; decide) rfl ?_; intro w9 H9
          try (refine hK _ _ ?_; clear hK K)
          refine wpAny_go (rs := [7]) (by kernel_rfl) (by simp) (AllO.cons rfl rfl (fun K hK => ?_) (AllO.nil))
          go_wp2
          try (refine hK _ _ ?_; clear hK K)
          refine wpAny_end (by kernel_rfl) ?_
          go_wp2
          refine bodyPost_ret (res_ct (by rfl) (by rfl) (by rfl) H9.out.1.cells Tryd.underlying35 szCab) rfl ?_
          exact ⟨{ c with inn := si, heard := sh }, n, rfl, A1, c1, L1, d1, rfl, (HNAv8.out.only H9.out.2 (by omega)).mono (by omega), (HNLv8.out.only H9.out.2 (by omega)).mono (by omega), eonly HXv8.out H9.out.2 (by omega)⟩
        · go_wp2
          try (refine hK _ _ ?_; clear hK K)
          refine wpAny_go (rs := [4]) (by kernel_rfl) (by simp) (AllO.cons rfl rfl (fun K hK => ?_) (AllO.nil))
          go_wp2
          try (refine hK _ _ ?_; clear hK K)
          refine wpAny_go (rs := [6]) (by kernel_rfl) (by simp) (AllO.cons rfl rfl (fun K hK => ?_) (AllO.nil))
          refine wpo_stN 35 [.int .i64 c.T.id, .string c.T.name, .int .i64 c.T.len, .int .i64 c.T.speed, .int .i64 c.T.accel, .int .i64 c.T.service, .int .i64 c.T.emergency, .int .i64 c.T.delay, .int .i64 c.T.cons, .int .i64 c.T.rate, .int .i64 c.mode, .int .i64 c.brake, .int .i64 c.next, .int .i64 c.E.min, .int .i64 c.E.max, .int .i64 c.E.speed, .int .i64 c.seq, .int .i64 c.en, .slice A1 c.p.length c1, .slice L1 c.k.length d1, .int .i64 c.peer, .int .i64 c.out, .int .i64 si, .int .i64 sh, .bool c.known, .int .i64 c.since] [.int .i64 c.T.id, .string c.T.name, .int .i64 c.T.len, .int .i64 c.T.speed, .int .i64 c.T.accel, .int .i64 c.T.service, .int .i64 c.T.emergency, .int .i64 c.T.delay, .int .i64 c.T.cons, .int .i64 c.T.rate, .int .i64 c.mode, .int .i64 c.brake, .int .i64 c.next, .int .i64 c.E.min, .int .i64 c.E.max, .int .i64 c.E.speed, .int .i64 c.seq, .int .i64 c.en, .slice A1 c.p.length c1, .slice L1 c.k.length d1, .int .i64 c.peer, .int .i64 c.out, .int .i64 si, .int .i64 sh, .bool c.known, .int .i64 c.since] rfl rfl (HORv8.out) rfl szCab rfl (by show (0 + 26 : Nat) ≤ 26; decide) rfl ?_; intro w9 H9
          try (refine hK _ _ ?_; clear hK K)
          refine wpAny_go (rs := [7]) (by kernel_rfl) (by simp) (AllO.cons rfl rfl (fun K hK => ?_) (AllO.nil))
          go_wp2
          try (refine hK _ _ ?_; clear hK K)
          refine wpAny_end (by kernel_rfl) ?_
          go_wp2
          refine bodyPost_ret (res_ct (by rfl) (by rfl) (by rfl) H9.out.1.cells Tryd.underlying35 szCab) rfl ?_
          exact ⟨{ c with inn := si, heard := sh }, n, rfl, A1, c1, L1, d1, rfl, (HNAv8.out.only H9.out.2 (by omega)).mono (by omega), (HNLv8.out.only H9.out.2 (by omega)).mono (by omega), eonly HXv8.out H9.out.2 (by omega)⟩
    · have HEC := Lib.hid he
      clear he HEK
      have hm : ∀ x : World, (method 271 116 (.agg #[]) "signalling/cab.apply").run Tryd.prog x = .ok (155, .agg #[]) x := fun _ => by kernel_rfl
      go_upto_region 6 with (first | (refine wp_ldN 31 [.int .i64 c.peer, .int .i64 c.out, .int .i64 si, .int .i64 sh] rfl rfl rfl (HOS5.out).cells Tryd.underlying31 szSes rfl ?_) | (refine wp_stN 31 [.int .i64 c.T.id, .string c.T.name, .int .i64 c.T.len, .int .i64 c.T.speed, .int .i64 c.T.accel, .int .i64 c.T.service, .int .i64 c.T.emergency, .int .i64 c.T.delay, .int .i64 c.T.cons, .int .i64 c.T.rate, .int .i64 c.mode, .int .i64 c.brake, .int .i64 c.next, .int .i64 c.E.min, .int .i64 c.E.max, .int .i64 c.E.speed, .int .i64 c.seq, .int .i64 c.en, .slice A1 c.p.length c1, .slice L1 c.k.length d1, .int .i64 c.peer, .int .i64 c.out, .int .i64 si, .int .i64 sh, .bool c.known, .int .i64 c.since] [.int .i64 c.peer, .int .i64 c.out, .int .i64 si, .int .i64 sh] rfl rfl rfl (HOCv4.out) rfl szSes rfl (by show (20 + 4 : Nat) ≤ 26; decide) rfl ?_; intro w6 H6))
      have HOCv5 := Lib.hid (H6.out.1)
      have HOMv5 := Lib.hid (HOMv4.out.only H6.out.2 (by omega))
      have HORv5 := Lib.hid (HORv4.out.only H6.out.2 (by omega))
      have HNAv5 := Lib.hid (HNAv4.out.only H6.out.2 (by omega))
      have HNLv5 := Lib.hid (HNLv4.out.only H6.out.2 (by omega))
      have HXv5 := Lib.hid (eonly HXv4.out H6.out.2 (by omega))
      clear H6
      refine wp_region_orders 8 rfl (by kernel_rfl) (fun wd hwd => ?_)
      have HOCv6 := Lib.hid (HOCv5.out.keep hwd)
      have HOMv6 := Lib.hid (HOMv5.out.keep hwd)
      have HORv6 := Lib.hid (HORv5.out.keep hwd)
      have HNAv6 := Lib.hid (HNAv5.out.keep hwd)
      have HNLv6 := Lib.hid (HNLv5.out.keep hwd)
      have HXv6 := Lib.hid (etr HXv5.out hwd)
      clear hwd
      dsimp only [Act.put]
      refine wpAny_go (rs := [0, 2]) (by kernel_rfl) (by simp) (AllO.cons rfl rfl (fun K hK => ?_) (AllO.cons rfl rfl (fun K hK => ?_) (AllO.nil)))
      · refine wpo_ldN 39 [.int .i64 m.kind, .int .i64 m.frm, .int .i64 m.to_, .int .i64 m.seq, .int .i64 m.time, .int .i64 m.aseq, .int .i64 m.aen, .slice B m.p.length cb, .slice D m.k.length ck, .int .i64 m.rmin, .int .i64 m.rspeed, .int .i64 m.rmode, .int .i64 m.racc, .bool m.rwhole] rfl rfl (HOMv6.out).cells Tryd.underlying39 szMsg rfl ?_
        try (refine hK _ _ ?_; clear hK K)
        refine wpAny_go (rs := [1, 2]) (by kernel_rfl) (by simp) (AllO.cons rfl rfl (fun K hK => ?_) (AllO.cons rfl rfl (fun K hK => ?_) (AllO.nil)))
        · go_wp2_with fail
          refine (HEC.out _).mono ?_
          rintro e we ⟨rfl, hbe⟩
          have HOCv7 := Lib.hid (HOCv6.out.keep hbe)
          have HOMv7 := Lib.hid (HOMv6.out.keep hbe)
          have HORv7 := Lib.hid (HORv6.out.keep hbe)
          have HNAv7 := Lib.hid (HNAv6.out.keep hbe)
          have HNLv7 := Lib.hid (HNLv6.out.keep hbe)
          have HXv7 := Lib.hid (etr HXv6.out hbe)
          clear hbe
          go_wp2
          try (refine hK _ _ ?_; clear hK K)
          refine wpAny_go (rs := [2]) (by kernel_rfl) (by simp) (AllO.cons rfl rfl (fun K hK => ?_) (AllO.nil))
          refine wpo_ldN 35 [.int .i64 c.T.id, .string c.T.name, .int .i64 c.T.len, .int .i64 c.T.speed, .int .i64 c.T.accel, .int .i64 c.T.service, .int .i64 c.T.emergency, .int .i64 c.T.delay, .int .i64 c.T.cons, .int .i64 c.T.rate, .int .i64 c.mode, .int .i64 c.brake, .int .i64 c.next, .int .i64 c.E.min, .int .i64 c.E.max, .int .i64 c.E.speed, .int .i64 c.seq, .int .i64 c.en, .slice A1 c.p.length c1, .slice L1 c.k.length d1, .int .i64 c.peer, .int .i64 c.out, .int .i64 si, .int .i64 sh, .bool c.known, .int .i64 c.since] rfl rfl (HOCv7.out).cells Tryd.underlying35 szCab rfl ?_
          try (refine hK _ _ ?_; clear hK K)
          refine wpAny_go (rs := [3]) (by kernel_rfl) (by simp) (AllO.cons rfl rfl (fun K hK => ?_) (AllO.nil))
          go_wp2_with fail
          refine (HG4.out si sh A1 L1 c1 d1 _ HXv7.out).mono ?_
          rintro e w8 ⟨n, rfl, hb⟩
          have zr := HORv7.out.1
          have HOCv8 := Lib.hid (HOCv7.out.keep hb)
          have HOMv8 := Lib.hid (HOMv7.out.keep hb)
          have HORv8 := Lib.hid (HORv7.out.keep hb)
          have HNAv8 := Lib.hid (HNAv7.out.keep hb)
          have HNLv8 := Lib.hid (HNLv7.out.keep hb)
          have HXv8 := Lib.hid (etr HXv7.out hb)
          clear hb
          go_wp2
          try (refine hK _ _ ?_; clear hK K)
          refine wpAny_go (rs := [4, 5]) (by kernel_rfl) (by simp) (AllO.cons rfl rfl (fun K hK => ?_) (AllO.cons rfl rfl (fun K hK => ?_) (AllO.nil)))
          · go_wp2
            try (refine hK _ _ ?_; clear hK K)
            refine wpAny_go (rs := [5]) (by kernel_rfl) (by simp) (AllO.cons rfl rfl (fun K hK => ?_) (AllO.nil))
            go_wp2
            try (refine hK _ _ ?_; clear hK K)
            refine wpAny_go (rs := [6]) (by kernel_rfl) (by simp) (AllO.cons rfl rfl (fun K hK => ?_) (AllO.nil))
            refine wpo_stN 35 [.int .i64 c.T.id, .string c.T.name, .int .i64 c.T.len, .int .i64 c.T.speed, .int .i64 c.T.accel, .int .i64 c.T.service, .int .i64 c.T.emergency, .int .i64 c.T.delay, .int .i64 c.T.cons, .int .i64 c.T.rate, .int .i64 c.mode, .int .i64 c.brake, .int .i64 c.next, .int .i64 c.E.min, .int .i64 c.E.max, .int .i64 c.E.speed, .int .i64 c.seq, .int .i64 c.en, .slice A1 c.p.length c1, .slice L1 c.k.length d1, .int .i64 c.peer, .int .i64 c.out, .int .i64 si, .int .i64 sh, .bool c.known, .int .i64 c.since] [.int .i64 c.T.id, .string c.T.name, .int .i64 c.T.len, .int .i64 c.T.speed, .int .i64 c.T.accel, .int .i64 c.T.service, .int .i64 c.T.emergency, .int .i64 c.T.delay, .int .i64 c.T.cons, .int .i64 c.T.rate, .int .i64 c.mode, .int .i64 c.brake, .int .i64 c.next, .int .i64 c.E.min, .int .i64 c.E.max, .int .i64 c.E.speed, .int .i64 c.seq, .int .i64 c.en, .slice A1 c.p.length c1, .slice L1 c.k.length d1, .int .i64 c.peer, .int .i64 c.out, .int .i64 si, .int .i64 sh, .bool c.known, .int .i64 c.since] rfl rfl (HORv8.out) rfl szCab rfl (by show (0 + 26 : Nat) ≤ 26; decide) rfl ?_; intro w9 H9
            try (refine hK _ _ ?_; clear hK K)
            refine wpAny_go (rs := [7]) (by kernel_rfl) (by simp) (AllO.cons rfl rfl (fun K hK => ?_) (AllO.nil))
            go_wp2
            try (refine hK _ _ ?_; clear hK K)
            refine wpAny_end (by kernel_rfl) ?_
            go_wp2
            refine bodyPost_ret (res_ct (by rfl) (by rfl) (by rfl) H9.out.1.cells Tryd.underlying35 szCab) rfl ?_
            exact ⟨{ c with inn := si, heard := sh }, n, rfl, A1, c1, L1, d1, rfl, (HNAv8.out.only H9.out.2 (by omega)).mono (by omega), (HNLv8.out.only H9.out.2 (by omega)).mono (by omega), eonly HXv8.out H9.out.2 (by omega)⟩
          · go_wp2
            try (refine hK _ _ ?_; clear hK K)
            refine wpAny_go (rs := [4]) (by kernel_rfl) (by simp) (AllO.cons rfl rfl (fun K hK => ?_) (AllO.nil))
            go_wp2
            try (refine hK _ _ ?_; clear hK K)
            refine wpAny_go (rs := [6]) (by kernel_rfl) (by simp) (AllO.cons rfl rfl (fun K hK => ?_) (AllO.nil))
            refine wpo_stN 35 [.int .i64 c.T.id, .string c.T.name, .int .i64 c.T.len, .int .i64 c.T.speed, .int .i64 c.T.accel, .int .i64 c.T.service, .int .i64 c.T.emergency, .int .i64 c.T.delay, .int .i64 c.T.cons, .int .i64 c.T.rate, .int .i64 c.mode, .int .i64 c.brake, .int .i64 c.next, .int .i64 c.E.min, .int .i64 c.E.max, .int .i64 c.E.speed, .int .i64 c.seq, .int .i64 c.en, .slice A1 c.p.length c1, .slice L1 c.k.length d1, .int .i64 c.peer, .int .i64 c.out, .int .i64 si, .int .i64 sh, .bool c.known, .int .i64 c.since] [.int .i64 c.T.id, .string c.T.name, .int .i64 c.T.len, .int .i64 c.T.speed, .int .i64 c.T.accel, .int .i64 c.T.service, .int .i64 c.T.emergency, .int .i64 c.T.delay, .int .i64 c.T.cons, .int .i64 c.T.rate, .int .i64 c.mode, .int .i64 c.brake, .int .i64 c.next, .int .i64 c.E.min, .int .i64 c.E.max, .int .i64 c.E.speed, .int .i64 c.seq, .int .i64 c.en, .slice A1 c.p.length c1, .slice L1 c.k.length d1, .int .i64 c.peer, .int .i64 c.out, .int .i64 si, .int .i64 sh, .bool c.known, .int .i64 c.since] rfl rfl (HORv8.out) rfl szCab rfl (by show (0 + 26 : Nat) ≤ 26; decide) rfl ?_; intro w9 H9
            try (refine hK _ _ ?_; clear hK K)
            refine wpAny_go (rs := [7]) (by kernel_rfl) (by simp) (AllO.cons rfl rfl (fun K hK => ?_) (AllO.nil))
            go_wp2
            try (refine hK _ _ ?_; clear hK K)
            refine wpAny_end (by kernel_rfl) ?_
            go_wp2
            refine bodyPost_ret (res_ct (by rfl) (by rfl) (by rfl) H9.out.1.cells Tryd.underlying35 szCab) rfl ?_
            exact ⟨{ c with inn := si, heard := sh }, n, rfl, A1, c1, L1, d1, rfl, (HNAv8.out.only H9.out.2 (by omega)).mono (by omega), (HNLv8.out.only H9.out.2 (by omega)).mono (by omega), eonly HXv8.out H9.out.2 (by omega)⟩
        · refine wpo_ldN 35 [.int .i64 c.T.id, .string c.T.name, .int .i64 c.T.len, .int .i64 c.T.speed, .int .i64 c.T.accel, .int .i64 c.T.service, .int .i64 c.T.emergency, .int .i64 c.T.delay, .int .i64 c.T.cons, .int .i64 c.T.rate, .int .i64 c.mode, .int .i64 c.brake, .int .i64 c.next, .int .i64 c.E.min, .int .i64 c.E.max, .int .i64 c.E.speed, .int .i64 c.seq, .int .i64 c.en, .slice A1 c.p.length c1, .slice L1 c.k.length d1, .int .i64 c.peer, .int .i64 c.out, .int .i64 si, .int .i64 sh, .bool c.known, .int .i64 c.since] rfl rfl (HOCv6.out).cells Tryd.underlying35 szCab rfl ?_
          try (refine hK _ _ ?_; clear hK K)
          refine wpAny_go (rs := [1]) (by kernel_rfl) (by simp) (AllO.cons rfl rfl (fun K hK => ?_) (AllO.nil))
          go_wp2_with fail
          refine (HEC.out _).mono ?_
          rintro e we ⟨rfl, hbe⟩
          have HOCv7 := Lib.hid (HOCv6.out.keep hbe)
          have HOMv7 := Lib.hid (HOMv6.out.keep hbe)
          have HORv7 := Lib.hid (HORv6.out.keep hbe)
          have HNAv7 := Lib.hid (HNAv6.out.keep hbe)
          have HNLv7 := Lib.hid (HNLv6.out.keep hbe)
          have HXv7 := Lib.hid (etr HXv6.out hbe)
          clear hbe
          go_wp2
          try (refine hK _ _ ?_; clear hK K)
          refine wpAny_go (rs := [3]) (by kernel_rfl) (by simp) (AllO.cons rfl rfl (fun K hK => ?_) (AllO.nil))
          go_wp2_with fail
          refine (HG4.out si sh A1 L1 c1 d1 _ HXv7.out).mono ?_
          rintro e w8 ⟨n, rfl, hb⟩
          have zr := HORv7.out.1
          have HOCv8 := Lib.hid (HOCv7.out.keep hb)
          have HOMv8 := Lib.hid (HOMv7.out.keep hb)
          have HORv8 := Lib.hid (HORv7.out.keep hb)
          have HNAv8 := Lib.hid (HNAv7.out.keep hb)
          have HNLv8 := Lib.hid (HNLv7.out.keep hb)
          have HXv8 := Lib.hid (etr HXv7.out hb)
          clear hb
          go_wp2
          try (refine hK _ _ ?_; clear hK K)
          refine wpAny_go (rs := [4, 5]) (by kernel_rfl) (by simp) (AllO.cons rfl rfl (fun K hK => ?_) (AllO.cons rfl rfl (fun K hK => ?_) (AllO.nil)))
          · go_wp2
            try (refine hK _ _ ?_; clear hK K)
            refine wpAny_go (rs := [5]) (by kernel_rfl) (by simp) (AllO.cons rfl rfl (fun K hK => ?_) (AllO.nil))
            go_wp2
            try (refine hK _ _ ?_; clear hK K)
            refine wpAny_go (rs := [6]) (by kernel_rfl) (by simp) (AllO.cons rfl rfl (fun K hK => ?_) (AllO.nil))
            refine wpo_stN 35 [.int .i64 c.T.id, .string c.T.name, .int .i64 c.T.len, .int .i64 c.T.speed, .int .i64 c.T.accel, .int .i64 c.T.service, .int .i64 c.T.emergency, .int .i64 c.T.delay, .int .i64 c.T.cons, .int .i64 c.T.rate, .int .i64 c.mode, .int .i64 c.brake, .int .i64 c.next, .int .i64 c.E.min, .int .i64 c.E.max, .int .i64 c.E.speed, .int .i64 c.seq, .int .i64 c.en, .slice A1 c.p.length c1, .slice L1 c.k.length d1, .int .i64 c.peer, .int .i64 c.out, .int .i64 si, .int .i64 sh, .bool c.known, .int .i64 c.since] [.int .i64 c.T.id, .string c.T.name, .int .i64 c.T.len, .int .i64 c.T.speed, .int .i64 c.T.accel, .int .i64 c.T.service, .int .i64 c.T.emergency, .int .i64 c.T.delay, .int .i64 c.T.cons, .int .i64 c.T.rate, .int .i64 c.mode, .int .i64 c.brake, .int .i64 c.next, .int .i64 c.E.min, .int .i64 c.E.max, .int .i64 c.E.speed, .int .i64 c.seq, .int .i64 c.en, .slice A1 c.p.length c1, .slice L1 c.k.length d1, .int .i64 c.peer, .int .i64 c.out, .int .i64 si, .int .i64 sh, .bool c.known, .int .i64 c.since] rfl rfl (HORv8.out) rfl szCab rfl (by show (0 + 26 : Nat) ≤ 26; decide) rfl ?_; intro w9 H9
            try (refine hK _ _ ?_; clear hK K)
            refine wpAny_go (rs := [7]) (by kernel_rfl) (by simp) (AllO.cons rfl rfl (fun K hK => ?_) (AllO.nil))
            go_wp2
            try (refine hK _ _ ?_; clear hK K)
            refine wpAny_end (by kernel_rfl) ?_
            go_wp2
            refine bodyPost_ret (res_ct (by rfl) (by rfl) (by rfl) H9.out.1.cells Tryd.underlying35 szCab) rfl ?_
            exact ⟨{ c with inn := si, heard := sh }, n, rfl, A1, c1, L1, d1, rfl, (HNAv8.out.only H9.out.2 (by omega)).mono (by omega), (HNLv8.out.only H9.out.2 (by omega)).mono (by omega), eonly HXv8.out H9.out.2 (by omega)⟩
          · go_wp2
            try (refine hK _ _ ?_; clear hK K)
            refine wpAny_go (rs := [4]) (by kernel_rfl) (by simp) (AllO.cons rfl rfl (fun K hK => ?_) (AllO.nil))
            go_wp2
            try (refine hK _ _ ?_; clear hK K)
            refine wpAny_go (rs := [6]) (by kernel_rfl) (by simp) (AllO.cons rfl rfl (fun K hK => ?_) (AllO.nil))
            refine wpo_stN 35 [.int .i64 c.T.id, .string c.T.name, .int .i64 c.T.len, .int .i64 c.T.speed, .int .i64 c.T.accel, .int .i64 c.T.service, .int .i64 c.T.emergency, .int .i64 c.T.delay, .int .i64 c.T.cons, .int .i64 c.T.rate, .int .i64 c.mode, .int .i64 c.brake, .int .i64 c.next, .int .i64 c.E.min, .int .i64 c.E.max, .int .i64 c.E.speed, .int .i64 c.seq, .int .i64 c.en, .slice A1 c.p.length c1, .slice L1 c.k.length d1, .int .i64 c.peer, .int .i64 c.out, .int .i64 si, .int .i64 sh, .bool c.known, .int .i64 c.since] [.int .i64 c.T.id, .string c.T.name, .int .i64 c.T.len, .int .i64 c.T.speed, .int .i64 c.T.accel, .int .i64 c.T.service, .int .i64 c.T.emergency, .int .i64 c.T.delay, .int .i64 c.T.cons, .int .i64 c.T.rate, .int .i64 c.mode, .int .i64 c.brake, .int .i64 c.next, .int .i64 c.E.min, .int .i64 c.E.max, .int .i64 c.E.speed, .int .i64 c.seq, .int .i64 c.en, .slice A1 c.p.length c1, .slice L1 c.k.length d1, .int .i64 c.peer, .int .i64 c.out, .int .i64 si, .int .i64 sh, .bool c.known, .int .i64 c.since] rfl rfl (HORv8.out) rfl szCab rfl (by show (0 + 26 : Nat) ≤ 26; decide) rfl ?_; intro w9 H9
            try (refine hK _ _ ?_; clear hK K)
            refine wpAny_go (rs := [7]) (by kernel_rfl) (by simp) (AllO.cons rfl rfl (fun K hK => ?_) (AllO.nil))
            go_wp2
            try (refine hK _ _ ?_; clear hK K)
            refine wpAny_end (by kernel_rfl) ?_
            go_wp2
            refine bodyPost_ret (res_ct (by rfl) (by rfl) (by rfl) H9.out.1.cells Tryd.underlying35 szCab) rfl ?_
            exact ⟨{ c with inn := si, heard := sh }, n, rfl, A1, c1, L1, d1, rfl, (HNAv8.out.only H9.out.2 (by omega)).mono (by omega), (HNLv8.out.only H9.out.2 (by omega)).mono (by omega), eonly HXv8.out H9.out.2 (by omega)⟩
      · refine wpo_ldN 35 [.int .i64 c.T.id, .string c.T.name, .int .i64 c.T.len, .int .i64 c.T.speed, .int .i64 c.T.accel, .int .i64 c.T.service, .int .i64 c.T.emergency, .int .i64 c.T.delay, .int .i64 c.T.cons, .int .i64 c.T.rate, .int .i64 c.mode, .int .i64 c.brake, .int .i64 c.next, .int .i64 c.E.min, .int .i64 c.E.max, .int .i64 c.E.speed, .int .i64 c.seq, .int .i64 c.en, .slice A1 c.p.length c1, .slice L1 c.k.length d1, .int .i64 c.peer, .int .i64 c.out, .int .i64 si, .int .i64 sh, .bool c.known, .int .i64 c.since] rfl rfl (HOCv6.out).cells Tryd.underlying35 szCab rfl ?_
        try (refine hK _ _ ?_; clear hK K)
        refine wpAny_go (rs := [0]) (by kernel_rfl) (by simp) (AllO.cons rfl rfl (fun K hK => ?_) (AllO.nil))
        refine wpo_ldN 39 [.int .i64 m.kind, .int .i64 m.frm, .int .i64 m.to_, .int .i64 m.seq, .int .i64 m.time, .int .i64 m.aseq, .int .i64 m.aen, .slice B m.p.length cb, .slice D m.k.length ck, .int .i64 m.rmin, .int .i64 m.rspeed, .int .i64 m.rmode, .int .i64 m.racc, .bool m.rwhole] rfl rfl (HOMv6.out).cells Tryd.underlying39 szMsg rfl ?_
        try (refine hK _ _ ?_; clear hK K)
        refine wpAny_go (rs := [1]) (by kernel_rfl) (by simp) (AllO.cons rfl rfl (fun K hK => ?_) (AllO.nil))
        go_wp2_with fail
        refine (HEC.out _).mono ?_
        rintro e we ⟨rfl, hbe⟩
        have HOCv7 := Lib.hid (HOCv6.out.keep hbe)
        have HOMv7 := Lib.hid (HOMv6.out.keep hbe)
        have HORv7 := Lib.hid (HORv6.out.keep hbe)
        have HNAv7 := Lib.hid (HNAv6.out.keep hbe)
        have HNLv7 := Lib.hid (HNLv6.out.keep hbe)
        have HXv7 := Lib.hid (etr HXv6.out hbe)
        clear hbe
        go_wp2
        try (refine hK _ _ ?_; clear hK K)
        refine wpAny_go (rs := [3]) (by kernel_rfl) (by simp) (AllO.cons rfl rfl (fun K hK => ?_) (AllO.nil))
        go_wp2_with fail
        refine (HG4.out si sh A1 L1 c1 d1 _ HXv7.out).mono ?_
        rintro e w8 ⟨n, rfl, hb⟩
        have zr := HORv7.out.1
        have HOCv8 := Lib.hid (HOCv7.out.keep hb)
        have HOMv8 := Lib.hid (HOMv7.out.keep hb)
        have HORv8 := Lib.hid (HORv7.out.keep hb)
        have HNAv8 := Lib.hid (HNAv7.out.keep hb)
        have HNLv8 := Lib.hid (HNLv7.out.keep hb)
        have HXv8 := Lib.hid (etr HXv7.out hb)
        clear hb
        go_wp2
        try (refine hK _ _ ?_; clear hK K)
        refine wpAny_go (rs := [4, 5]) (by kernel_rfl) (by simp) (AllO.cons rfl rfl (fun K hK => ?_) (AllO.cons rfl rfl (fun K hK => ?_) (AllO.nil)))
        · go_wp2
          try (refine hK _ _ ?_; clear hK K)
          refine wpAny_go (rs := [5]) (by kernel_rfl) (by simp) (AllO.cons rfl rfl (fun K hK => ?_) (AllO.nil))
          go_wp2
          try (refine hK _ _ ?_; clear hK K)
          refine wpAny_go (rs := [6]) (by kernel_rfl) (by simp) (AllO.cons rfl rfl (fun K hK => ?_) (AllO.nil))
          refine wpo_stN 35 [.int .i64 c.T.id, .string c.T.name, .int .i64 c.T.len, .int .i64 c.T.speed, .int .i64 c.T.accel, .int .i64 c.T.service, .int .i64 c.T.emergency, .int .i64 c.T.delay, .int .i64 c.T.cons, .int .i64 c.T.rate, .int .i64 c.mode, .int .i64 c.brake, .int .i64 c.next, .int .i64 c.E.min, .int .i64 c.E.max, .int .i64 c.E.speed, .int .i64 c.seq, .int .i64 c.en, .slice A1 c.p.length c1, .slice L1 c.k.length d1, .int .i64 c.peer, .int .i64 c.out, .int .i64 si, .int .i64 sh, .bool c.known, .int .i64 c.since] [.int .i64 c.T.id, .string c.T.name, .int .i64 c.T.len, .int .i64 c.T.speed, .int .i64 c.T.accel, .int .i64 c.T.service, .int .i64 c.T.emergency, .int .i64 c.T.delay, .int .i64 c.T.cons, .int .i64 c.T.rate, .int .i64 c.mode, .int .i64 c.brake, .int .i64 c.next, .int .i64 c.E.min, .int .i64 c.E.max, .int .i64 c.E.speed, .int .i64 c.seq, .int .i64 c.en, .slice A1 c.p.length c1, .slice L1 c.k.length d1, .int .i64 c.peer, .int .i64 c.out, .int .i64 si, .int .i64 sh, .bool c.known, .int .i64 c.since] rfl rfl (HORv8.out) rfl szCab rfl (by show (0 + 26 : Nat) ≤ 26; decide) rfl ?_; intro w9 H9
          try (refine hK _ _ ?_; clear hK K)
          refine wpAny_go (rs := [7]) (by kernel_rfl) (by simp) (AllO.cons rfl rfl (fun K hK => ?_) (AllO.nil))
          go_wp2
          try (refine hK _ _ ?_; clear hK K)
          refine wpAny_end (by kernel_rfl) ?_
          go_wp2
          refine bodyPost_ret (res_ct (by rfl) (by rfl) (by rfl) H9.out.1.cells Tryd.underlying35 szCab) rfl ?_
          exact ⟨{ c with inn := si, heard := sh }, n, rfl, A1, c1, L1, d1, rfl, (HNAv8.out.only H9.out.2 (by omega)).mono (by omega), (HNLv8.out.only H9.out.2 (by omega)).mono (by omega), eonly HXv8.out H9.out.2 (by omega)⟩
        · go_wp2
          try (refine hK _ _ ?_; clear hK K)
          refine wpAny_go (rs := [4]) (by kernel_rfl) (by simp) (AllO.cons rfl rfl (fun K hK => ?_) (AllO.nil))
          go_wp2
          try (refine hK _ _ ?_; clear hK K)
          refine wpAny_go (rs := [6]) (by kernel_rfl) (by simp) (AllO.cons rfl rfl (fun K hK => ?_) (AllO.nil))
          refine wpo_stN 35 [.int .i64 c.T.id, .string c.T.name, .int .i64 c.T.len, .int .i64 c.T.speed, .int .i64 c.T.accel, .int .i64 c.T.service, .int .i64 c.T.emergency, .int .i64 c.T.delay, .int .i64 c.T.cons, .int .i64 c.T.rate, .int .i64 c.mode, .int .i64 c.brake, .int .i64 c.next, .int .i64 c.E.min, .int .i64 c.E.max, .int .i64 c.E.speed, .int .i64 c.seq, .int .i64 c.en, .slice A1 c.p.length c1, .slice L1 c.k.length d1, .int .i64 c.peer, .int .i64 c.out, .int .i64 si, .int .i64 sh, .bool c.known, .int .i64 c.since] [.int .i64 c.T.id, .string c.T.name, .int .i64 c.T.len, .int .i64 c.T.speed, .int .i64 c.T.accel, .int .i64 c.T.service, .int .i64 c.T.emergency, .int .i64 c.T.delay, .int .i64 c.T.cons, .int .i64 c.T.rate, .int .i64 c.mode, .int .i64 c.brake, .int .i64 c.next, .int .i64 c.E.min, .int .i64 c.E.max, .int .i64 c.E.speed, .int .i64 c.seq, .int .i64 c.en, .slice A1 c.p.length c1, .slice L1 c.k.length d1, .int .i64 c.peer, .int .i64 c.out, .int .i64 si, .int .i64 sh, .bool c.known, .int .i64 c.since] rfl rfl (HORv8.out) rfl szCab rfl (by show (0 + 26 : Nat) ≤ 26; decide) rfl ?_; intro w9 H9
          try (refine hK _ _ ?_; clear hK K)
          refine wpAny_go (rs := [7]) (by kernel_rfl) (by simp) (AllO.cons rfl rfl (fun K hK => ?_) (AllO.nil))
          go_wp2
          try (refine hK _ _ ?_; clear hK K)
          refine wpAny_end (by kernel_rfl) ?_
          go_wp2
          refine bodyPost_ret (res_ct (by rfl) (by rfl) (by rfl) H9.out.1.cells Tryd.underlying35 szCab) rfl ?_
          exact ⟨{ c with inn := si, heard := sh }, n, rfl, A1, c1, L1, d1, rfl, (HNAv8.out.only H9.out.2 (by omega)).mono (by omega), (HNLv8.out.only H9.out.2 (by omega)).mono (by omega), eonly HXv8.out H9.out.2 (by omega)⟩
    · have HEC := Lib.hid he
      clear he HEK
      have hm : ∀ x : World, (method 271 117 (.agg #[]) "signalling/cab.apply").run Tryd.prog x = .ok (156, .agg #[]) x := fun _ => by kernel_rfl
      go_upto_region 6 with (first | (refine wp_ldN 31 [.int .i64 c.peer, .int .i64 c.out, .int .i64 si, .int .i64 sh] rfl rfl rfl (HOS5.out).cells Tryd.underlying31 szSes rfl ?_) | (refine wp_stN 31 [.int .i64 c.T.id, .string c.T.name, .int .i64 c.T.len, .int .i64 c.T.speed, .int .i64 c.T.accel, .int .i64 c.T.service, .int .i64 c.T.emergency, .int .i64 c.T.delay, .int .i64 c.T.cons, .int .i64 c.T.rate, .int .i64 c.mode, .int .i64 c.brake, .int .i64 c.next, .int .i64 c.E.min, .int .i64 c.E.max, .int .i64 c.E.speed, .int .i64 c.seq, .int .i64 c.en, .slice A1 c.p.length c1, .slice L1 c.k.length d1, .int .i64 c.peer, .int .i64 c.out, .int .i64 si, .int .i64 sh, .bool c.known, .int .i64 c.since] [.int .i64 c.peer, .int .i64 c.out, .int .i64 si, .int .i64 sh] rfl rfl rfl (HOCv4.out) rfl szSes rfl (by show (20 + 4 : Nat) ≤ 26; decide) rfl ?_; intro w6 H6))
      have HOCv5 := Lib.hid (H6.out.1)
      have HOMv5 := Lib.hid (HOMv4.out.only H6.out.2 (by omega))
      have HORv5 := Lib.hid (HORv4.out.only H6.out.2 (by omega))
      have HNAv5 := Lib.hid (HNAv4.out.only H6.out.2 (by omega))
      have HNLv5 := Lib.hid (HNLv4.out.only H6.out.2 (by omega))
      have HXv5 := Lib.hid (eonly HXv4.out H6.out.2 (by omega))
      clear H6
      refine wp_region_orders 8 rfl (by kernel_rfl) (fun wd hwd => ?_)
      have HOCv6 := Lib.hid (HOCv5.out.keep hwd)
      have HOMv6 := Lib.hid (HOMv5.out.keep hwd)
      have HORv6 := Lib.hid (HORv5.out.keep hwd)
      have HNAv6 := Lib.hid (HNAv5.out.keep hwd)
      have HNLv6 := Lib.hid (HNLv5.out.keep hwd)
      have HXv6 := Lib.hid (etr HXv5.out hwd)
      clear hwd
      dsimp only [Act.put]
      refine wpAny_go (rs := [0, 2]) (by kernel_rfl) (by simp) (AllO.cons rfl rfl (fun K hK => ?_) (AllO.cons rfl rfl (fun K hK => ?_) (AllO.nil)))
      · refine wpo_ldN 39 [.int .i64 m.kind, .int .i64 m.frm, .int .i64 m.to_, .int .i64 m.seq, .int .i64 m.time, .int .i64 m.aseq, .int .i64 m.aen, .slice B m.p.length cb, .slice D m.k.length ck, .int .i64 m.rmin, .int .i64 m.rspeed, .int .i64 m.rmode, .int .i64 m.racc, .bool m.rwhole] rfl rfl (HOMv6.out).cells Tryd.underlying39 szMsg rfl ?_
        try (refine hK _ _ ?_; clear hK K)
        refine wpAny_go (rs := [1, 2]) (by kernel_rfl) (by simp) (AllO.cons rfl rfl (fun K hK => ?_) (AllO.cons rfl rfl (fun K hK => ?_) (AllO.nil)))
        · go_wp2_with fail
          refine (HEC.out _).mono ?_
          rintro e we ⟨rfl, hbe⟩
          have HOCv7 := Lib.hid (HOCv6.out.keep hbe)
          have HOMv7 := Lib.hid (HOMv6.out.keep hbe)
          have HORv7 := Lib.hid (HORv6.out.keep hbe)
          have HNAv7 := Lib.hid (HNAv6.out.keep hbe)
          have HNLv7 := Lib.hid (HNLv6.out.keep hbe)
          have HXv7 := Lib.hid (etr HXv6.out hbe)
          clear hbe
          go_wp2
          try (refine hK _ _ ?_; clear hK K)
          refine wpAny_go (rs := [2]) (by kernel_rfl) (by simp) (AllO.cons rfl rfl (fun K hK => ?_) (AllO.nil))
          refine wpo_ldN 35 [.int .i64 c.T.id, .string c.T.name, .int .i64 c.T.len, .int .i64 c.T.speed, .int .i64 c.T.accel, .int .i64 c.T.service, .int .i64 c.T.emergency, .int .i64 c.T.delay, .int .i64 c.T.cons, .int .i64 c.T.rate, .int .i64 c.mode, .int .i64 c.brake, .int .i64 c.next, .int .i64 c.E.min, .int .i64 c.E.max, .int .i64 c.E.speed, .int .i64 c.seq, .int .i64 c.en, .slice A1 c.p.length c1, .slice L1 c.k.length d1, .int .i64 c.peer, .int .i64 c.out, .int .i64 si, .int .i64 sh, .bool c.known, .int .i64 c.since] rfl rfl (HOCv7.out).cells Tryd.underlying35 szCab rfl ?_
          try (refine hK _ _ ?_; clear hK K)
          refine wpAny_go (rs := [3]) (by kernel_rfl) (by simp) (AllO.cons rfl rfl (fun K hK => ?_) (AllO.nil))
          go_wp2_with fail
          refine (HG5.out si sh A1 L1 c1 d1 _ HXv7.out).mono ?_
          rintro e w8 ⟨n, rfl, hb⟩
          have zr := HORv7.out.1
          have HOCv8 := Lib.hid (HOCv7.out.keep hb)
          have HOMv8 := Lib.hid (HOMv7.out.keep hb)
          have HORv8 := Lib.hid (HORv7.out.keep hb)
          have HNAv8 := Lib.hid (HNAv7.out.keep hb)
          have HNLv8 := Lib.hid (HNLv7.out.keep hb)
          have HXv8 := Lib.hid (etr HXv7.out hb)
          clear hb
          go_wp2
          try (refine hK _ _ ?_; clear hK K)
          refine wpAny_go (rs := [4, 5]) (by kernel_rfl) (by simp) (AllO.cons rfl rfl (fun K hK => ?_) (AllO.cons rfl rfl (fun K hK => ?_) (AllO.nil)))
          · go_wp2
            try (refine hK _ _ ?_; clear hK K)
            refine wpAny_go (rs := [5]) (by kernel_rfl) (by simp) (AllO.cons rfl rfl (fun K hK => ?_) (AllO.nil))
            go_wp2
            try (refine hK _ _ ?_; clear hK K)
            refine wpAny_go (rs := [6]) (by kernel_rfl) (by simp) (AllO.cons rfl rfl (fun K hK => ?_) (AllO.nil))
            refine wpo_stN 35 [.int .i64 c.T.id, .string c.T.name, .int .i64 c.T.len, .int .i64 c.T.speed, .int .i64 c.T.accel, .int .i64 c.T.service, .int .i64 c.T.emergency, .int .i64 c.T.delay, .int .i64 c.T.cons, .int .i64 c.T.rate, .int .i64 c.mode, .int .i64 c.brake, .int .i64 c.next, .int .i64 c.E.min, .int .i64 c.E.max, .int .i64 c.E.speed, .int .i64 c.seq, .int .i64 c.en, .slice A1 c.p.length c1, .slice L1 c.k.length d1, .int .i64 c.peer, .int .i64 c.out, .int .i64 si, .int .i64 sh, .bool c.known, .int .i64 c.since] [.int .i64 c.T.id, .string c.T.name, .int .i64 c.T.len, .int .i64 c.T.speed, .int .i64 c.T.accel, .int .i64 c.T.service, .int .i64 c.T.emergency, .int .i64 c.T.delay, .int .i64 c.T.cons, .int .i64 c.T.rate, .int .i64 c.mode, .int .i64 c.brake, .int .i64 c.next, .int .i64 c.E.min, .int .i64 c.E.max, .int .i64 c.E.speed, .int .i64 c.seq, .int .i64 c.en, .slice A1 c.p.length c1, .slice L1 c.k.length d1, .int .i64 c.peer, .int .i64 c.out, .int .i64 si, .int .i64 sh, .bool c.known, .int .i64 c.since] rfl rfl (HORv8.out) rfl szCab rfl (by show (0 + 26 : Nat) ≤ 26; decide) rfl ?_; intro w9 H9
            try (refine hK _ _ ?_; clear hK K)
            refine wpAny_go (rs := [7]) (by kernel_rfl) (by simp) (AllO.cons rfl rfl (fun K hK => ?_) (AllO.nil))
            go_wp2
            try (refine hK _ _ ?_; clear hK K)
            refine wpAny_end (by kernel_rfl) ?_
            go_wp2
            refine bodyPost_ret (res_ct (by rfl) (by rfl) (by rfl) H9.out.1.cells Tryd.underlying35 szCab) rfl ?_
            exact ⟨{ c with inn := si, heard := sh }, n, rfl, A1, c1, L1, d1, rfl, (HNAv8.out.only H9.out.2 (by omega)).mono (by omega), (HNLv8.out.only H9.out.2 (by omega)).mono (by omega), eonly HXv8.out H9.out.2 (by omega)⟩
          · go_wp2
            try (refine hK _ _ ?_; clear hK K)
            refine wpAny_go (rs := [4]) (by kernel_rfl) (by simp) (AllO.cons rfl rfl (fun K hK => ?_) (AllO.nil))
            go_wp2
            try (refine hK _ _ ?_; clear hK K)
            refine wpAny_go (rs := [6]) (by kernel_rfl) (by simp) (AllO.cons rfl rfl (fun K hK => ?_) (AllO.nil))
            refine wpo_stN 35 [.int .i64 c.T.id, .string c.T.name, .int .i64 c.T.len, .int .i64 c.T.speed, .int .i64 c.T.accel, .int .i64 c.T.service, .int .i64 c.T.emergency, .int .i64 c.T.delay, .int .i64 c.T.cons, .int .i64 c.T.rate, .int .i64 c.mode, .int .i64 c.brake, .int .i64 c.next, .int .i64 c.E.min, .int .i64 c.E.max, .int .i64 c.E.speed, .int .i64 c.seq, .int .i64 c.en, .slice A1 c.p.length c1, .slice L1 c.k.length d1, .int .i64 c.peer, .int .i64 c.out, .int .i64 si, .int .i64 sh, .bool c.known, .int .i64 c.since] [.int .i64 c.T.id, .string c.T.name, .int .i64 c.T.len, .int .i64 c.T.speed, .int .i64 c.T.accel, .int .i64 c.T.service, .int .i64 c.T.emergency, .int .i64 c.T.delay, .int .i64 c.T.cons, .int .i64 c.T.rate, .int .i64 c.mode, .int .i64 c.brake, .int .i64 c.next, .int .i64 c.E.min, .int .i64 c.E.max, .int .i64 c.E.speed, .int .i64 c.seq, .int .i64 c.en, .slice A1 c.p.length c1, .slice L1 c.k.length d1, .int .i64 c.peer, .int .i64 c.out, .int .i64 si, .int .i64 sh, .bool c.known, .int .i64 c.since] rfl rfl (HORv8.out) rfl szCab rfl (by show (0 + 26 : Nat) ≤ 26; decide) rfl ?_; intro w9 H9
            try (refine hK _ _ ?_; clear hK K)
            refine wpAny_go (rs := [7]) (by kernel_rfl) (by simp) (AllO.cons rfl rfl (fun K hK => ?_) (AllO.nil))
            go_wp2
            try (refine hK _ _ ?_; clear hK K)
            refine wpAny_end (by kernel_rfl) ?_
            go_wp2
            refine bodyPost_ret (res_ct (by rfl) (by rfl) (by rfl) H9.out.1.cells Tryd.underlying35 szCab) rfl ?_
            exact ⟨{ c with inn := si, heard := sh }, n, rfl, A1, c1, L1, d1, rfl, (HNAv8.out.only H9.out.2 (by omega)).mono (by omega), (HNLv8.out.only H9.out.2 (by omega)).mono (by omega), eonly HXv8.out H9.out.2 (by omega)⟩
        · refine wpo_ldN 35 [.int .i64 c.T.id, .string c.T.name, .int .i64 c.T.len, .int .i64 c.T.speed, .int .i64 c.T.accel, .int .i64 c.T.service, .int .i64 c.T.emergency, .int .i64 c.T.delay, .int .i64 c.T.cons, .int .i64 c.T.rate, .int .i64 c.mode, .int .i64 c.brake, .int .i64 c.next, .int .i64 c.E.min, .int .i64 c.E.max, .int .i64 c.E.speed, .int .i64 c.seq, .int .i64 c.en, .slice A1 c.p.length c1, .slice L1 c.k.length d1, .int .i64 c.peer, .int .i64 c.out, .int .i64 si, .int .i64 sh, .bool c.known, .int .i64 c.since] rfl rfl (HOCv6.out).cells Tryd.underlying35 szCab rfl ?_
          try (refine hK _ _ ?_; clear hK K)
          refine wpAny_go (rs := [1]) (by kernel_rfl) (by simp) (AllO.cons rfl rfl (fun K hK => ?_) (AllO.nil))
          go_wp2_with fail
          refine (HEC.out _).mono ?_
          rintro e we ⟨rfl, hbe⟩
          have HOCv7 := Lib.hid (HOCv6.out.keep hbe)
          have HOMv7 := Lib.hid (HOMv6.out.keep hbe)
          have HORv7 := Lib.hid (HORv6.out.keep hbe)
          have HNAv7 := Lib.hid (HNAv6.out.keep hbe)
          have HNLv7 := Lib.hid (HNLv6.out.keep hbe)
          have HXv7 := Lib.hid (etr HXv6.out hbe)
          clear hbe
          go_wp2
          try (refine hK _ _ ?_; clear hK K)
          refine wpAny_go (rs := [3]) (by kernel_rfl) (by simp) (AllO.cons rfl rfl (fun K hK => ?_) (AllO.nil))
          go_wp2_with fail
          refine (HG5.out si sh A1 L1 c1 d1 _ HXv7.out).mono ?_
          rintro e w8 ⟨n, rfl, hb⟩
          have zr := HORv7.out.1
          have HOCv8 := Lib.hid (HOCv7.out.keep hb)
          have HOMv8 := Lib.hid (HOMv7.out.keep hb)
          have HORv8 := Lib.hid (HORv7.out.keep hb)
          have HNAv8 := Lib.hid (HNAv7.out.keep hb)
          have HNLv8 := Lib.hid (HNLv7.out.keep hb)
          have HXv8 := Lib.hid (etr HXv7.out hb)
          clear hb
          go_wp2
          try (refine hK _ _ ?_; clear hK K)
          refine wpAny_go (rs := [4, 5]) (by kernel_rfl) (by simp) (AllO.cons rfl rfl (fun K hK => ?_) (AllO.cons rfl rfl (fun K hK => ?_) (AllO.nil)))
          · go_wp2
            try (refine hK _ _ ?_; clear hK K)
            refine wpAny_go (rs := [5]) (by kernel_rfl) (by simp) (AllO.cons rfl rfl (fun K hK => ?_) (AllO.nil))
            go_wp2
            try (refine hK _ _ ?_; clear hK K)
            refine wpAny_go (rs := [6]) (by kernel_rfl) (by simp) (AllO.cons rfl rfl (fun K hK => ?_) (AllO.nil))
            refine wpo_stN 35 [.int .i64 c.T.id, .string c.T.name, .int .i64 c.T.len, .int .i64 c.T.speed, .int .i64 c.T.accel, .int .i64 c.T.service, .int .i64 c.T.emergency, .int .i64 c.T.delay, .int .i64 c.T.cons, .int .i64 c.T.rate, .int .i64 c.mode, .int .i64 c.brake, .int .i64 c.next, .int .i64 c.E.min, .int .i64 c.E.max, .int .i64 c.E.speed, .int .i64 c.seq, .int .i64 c.en, .slice A1 c.p.length c1, .slice L1 c.k.length d1, .int .i64 c.peer, .int .i64 c.out, .int .i64 si, .int .i64 sh, .bool c.known, .int .i64 c.since] [.int .i64 c.T.id, .string c.T.name, .int .i64 c.T.len, .int .i64 c.T.speed, .int .i64 c.T.accel, .int .i64 c.T.service, .int .i64 c.T.emergency, .int .i64 c.T.delay, .int .i64 c.T.cons, .int .i64 c.T.rate, .int .i64 c.mode, .int .i64 c.brake, .int .i64 c.next, .int .i64 c.E.min, .int .i64 c.E.max, .int .i64 c.E.speed, .int .i64 c.seq, .int .i64 c.en, .slice A1 c.p.length c1, .slice L1 c.k.length d1, .int .i64 c.peer, .int .i64 c.out, .int .i64 si, .int .i64 sh, .bool c.known, .int .i64 c.since] rfl rfl (HORv8.out) rfl szCab rfl (by show (0 + 26 : Nat) ≤ 26; decide) rfl ?_; intro w9 H9
            try (refine hK _ _ ?_; clear hK K)
            refine wpAny_go (rs := [7]) (by kernel_rfl) (by simp) (AllO.cons rfl rfl (fun K hK => ?_) (AllO.nil))
            go_wp2
            try (refine hK _ _ ?_; clear hK K)
            refine wpAny_end (by kernel_rfl) ?_
            go_wp2
            refine bodyPost_ret (res_ct (by rfl) (by rfl) (by rfl) H9.out.1.cells Tryd.underlying35 szCab) rfl ?_
            exact ⟨{ c with inn := si, heard := sh }, n, rfl, A1, c1, L1, d1, rfl, (HNAv8.out.only H9.out.2 (by omega)).mono (by omega), (HNLv8.out.only H9.out.2 (by omega)).mono (by omega), eonly HXv8.out H9.out.2 (by omega)⟩
          · go_wp2
            try (refine hK _ _ ?_; clear hK K)
            refine wpAny_go (rs := [4]) (by kernel_rfl) (by simp) (AllO.cons rfl rfl (fun K hK => ?_) (AllO.nil))
            go_wp2
            try (refine hK _ _ ?_; clear hK K)
            refine wpAny_go (rs := [6]) (by kernel_rfl) (by simp) (AllO.cons rfl rfl (fun K hK => ?_) (AllO.nil))
            refine wpo_stN 35 [.int .i64 c.T.id, .string c.T.name, .int .i64 c.T.len, .int .i64 c.T.speed, .int .i64 c.T.accel, .int .i64 c.T.service, .int .i64 c.T.emergency, .int .i64 c.T.delay, .int .i64 c.T.cons, .int .i64 c.T.rate, .int .i64 c.mode, .int .i64 c.brake, .int .i64 c.next, .int .i64 c.E.min, .int .i64 c.E.max, .int .i64 c.E.speed, .int .i64 c.seq, .int .i64 c.en, .slice A1 c.p.length c1, .slice L1 c.k.length d1, .int .i64 c.peer, .int .i64 c.out, .int .i64 si, .int .i64 sh, .bool c.known, .int .i64 c.since] [.int .i64 c.T.id, .string c.T.name, .int .i64 c.T.len, .int .i64 c.T.speed, .int .i64 c.T.accel, .int .i64 c.T.service, .int .i64 c.T.emergency, .int .i64 c.T.delay, .int .i64 c.T.cons, .int .i64 c.T.rate, .int .i64 c.mode, .int .i64 c.brake, .int .i64 c.next, .int .i64 c.E.min, .int .i64 c.E.max, .int .i64 c.E.speed, .int .i64 c.seq, .int .i64 c.en, .slice A1 c.p.length c1, .slice L1 c.k.length d1, .int .i64 c.peer, .int .i64 c.out, .int .i64 si, .int .i64 sh, .bool c.known, .int .i64 c.since] rfl rfl (HORv8.out) rfl szCab rfl (by show (0 + 26 : Nat) ≤ 26; decide) rfl ?_; intro w9 H9
            try (refine hK _ _ ?_; clear hK K)
            refine wpAny_go (rs := [7]) (by kernel_rfl) (by simp) (AllO.cons rfl rfl (fun K hK => ?_) (AllO.nil))
            go_wp2
            try (refine hK _ _ ?_; clear hK K)
            refine wpAny_end (by kernel_rfl) ?_
            go_wp2
            refine bodyPost_ret (res_ct (by rfl) (by rfl) (by rfl) H9.out.1.cells Tryd.underlying35 szCab) rfl ?_
            exact ⟨{ c with inn := si, heard := sh }, n, rfl, A1, c1, L1, d1, rfl, (HNAv8.out.only H9.out.2 (by omega)).mono (by omega), (HNLv8.out.only H9.out.2 (by omega)).mono (by omega), eonly HXv8.out H9.out.2 (by omega)⟩
      · refine wpo_ldN 35 [.int .i64 c.T.id, .string c.T.name, .int .i64 c.T.len, .int .i64 c.T.speed, .int .i64 c.T.accel, .int .i64 c.T.service, .int .i64 c.T.emergency, .int .i64 c.T.delay, .int .i64 c.T.cons, .int .i64 c.T.rate, .int .i64 c.mode, .int .i64 c.brake, .int .i64 c.next, .int .i64 c.E.min, .int .i64 c.E.max, .int .i64 c.E.speed, .int .i64 c.seq, .int .i64 c.en, .slice A1 c.p.length c1, .slice L1 c.k.length d1, .int .i64 c.peer, .int .i64 c.out, .int .i64 si, .int .i64 sh, .bool c.known, .int .i64 c.since] rfl rfl (HOCv6.out).cells Tryd.underlying35 szCab rfl ?_
        try (refine hK _ _ ?_; clear hK K)
        refine wpAny_go (rs := [0]) (by kernel_rfl) (by simp) (AllO.cons rfl rfl (fun K hK => ?_) (AllO.nil))
        refine wpo_ldN 39 [.int .i64 m.kind, .int .i64 m.frm, .int .i64 m.to_, .int .i64 m.seq, .int .i64 m.time, .int .i64 m.aseq, .int .i64 m.aen, .slice B m.p.length cb, .slice D m.k.length ck, .int .i64 m.rmin, .int .i64 m.rspeed, .int .i64 m.rmode, .int .i64 m.racc, .bool m.rwhole] rfl rfl (HOMv6.out).cells Tryd.underlying39 szMsg rfl ?_
        try (refine hK _ _ ?_; clear hK K)
        refine wpAny_go (rs := [1]) (by kernel_rfl) (by simp) (AllO.cons rfl rfl (fun K hK => ?_) (AllO.nil))
        go_wp2_with fail
        refine (HEC.out _).mono ?_
        rintro e we ⟨rfl, hbe⟩
        have HOCv7 := Lib.hid (HOCv6.out.keep hbe)
        have HOMv7 := Lib.hid (HOMv6.out.keep hbe)
        have HORv7 := Lib.hid (HORv6.out.keep hbe)
        have HNAv7 := Lib.hid (HNAv6.out.keep hbe)
        have HNLv7 := Lib.hid (HNLv6.out.keep hbe)
        have HXv7 := Lib.hid (etr HXv6.out hbe)
        clear hbe
        go_wp2
        try (refine hK _ _ ?_; clear hK K)
        refine wpAny_go (rs := [3]) (by kernel_rfl) (by simp) (AllO.cons rfl rfl (fun K hK => ?_) (AllO.nil))
        go_wp2_with fail
        refine (HG5.out si sh A1 L1 c1 d1 _ HXv7.out).mono ?_
        rintro e w8 ⟨n, rfl, hb⟩
        have zr := HORv7.out.1
        have HOCv8 := Lib.hid (HOCv7.out.keep hb)
        have HOMv8 := Lib.hid (HOMv7.out.keep hb)
        have HORv8 := Lib.hid (HORv7.out.keep hb)
        have HNAv8 := Lib.hid (HNAv7.out.keep hb)
        have HNLv8 := Lib.hid (HNLv7.out.keep hb)
        have HXv8 := Lib.hid (etr HXv7.out hb)
        clear hb
        go_wp2
        try (refine hK _ _ ?_; clear hK K)
        refine wpAny_go (rs := [4, 5]) (by kernel_rfl) (by simp) (AllO.cons rfl rfl (fun K hK => ?_) (AllO.cons rfl rfl (fun K hK => ?_) (AllO.nil)))
        · go_wp2
          try (refine hK _ _ ?_; clear hK K)
          refine wpAny_go (rs := [5]) (by kernel_rfl) (by simp) (AllO.cons rfl rfl (fun K hK => ?_) (AllO.nil))
          go_wp2
          try (refine hK _ _ ?_; clear hK K)
          refine wpAny_go (rs := [6]) (by kernel_rfl) (by simp) (AllO.cons rfl rfl (fun K hK => ?_) (AllO.nil))
          refine wpo_stN 35 [.int .i64 c.T.id, .string c.T.name, .int .i64 c.T.len, .int .i64 c.T.speed, .int .i64 c.T.accel, .int .i64 c.T.service, .int .i64 c.T.emergency, .int .i64 c.T.delay, .int .i64 c.T.cons, .int .i64 c.T.rate, .int .i64 c.mode, .int .i64 c.brake, .int .i64 c.next, .int .i64 c.E.min, .int .i64 c.E.max, .int .i64 c.E.speed, .int .i64 c.seq, .int .i64 c.en, .slice A1 c.p.length c1, .slice L1 c.k.length d1, .int .i64 c.peer, .int .i64 c.out, .int .i64 si, .int .i64 sh, .bool c.known, .int .i64 c.since] [.int .i64 c.T.id, .string c.T.name, .int .i64 c.T.len, .int .i64 c.T.speed, .int .i64 c.T.accel, .int .i64 c.T.service, .int .i64 c.T.emergency, .int .i64 c.T.delay, .int .i64 c.T.cons, .int .i64 c.T.rate, .int .i64 c.mode, .int .i64 c.brake, .int .i64 c.next, .int .i64 c.E.min, .int .i64 c.E.max, .int .i64 c.E.speed, .int .i64 c.seq, .int .i64 c.en, .slice A1 c.p.length c1, .slice L1 c.k.length d1, .int .i64 c.peer, .int .i64 c.out, .int .i64 si, .int .i64 sh, .bool c.known, .int .i64 c.since] rfl rfl (HORv8.out) rfl szCab rfl (by show (0 + 26 : Nat) ≤ 26; decide) rfl ?_; intro w9 H9
          try (refine hK _ _ ?_; clear hK K)
          refine wpAny_go (rs := [7]) (by kernel_rfl) (by simp) (AllO.cons rfl rfl (fun K hK => ?_) (AllO.nil))
          go_wp2
          try (refine hK _ _ ?_; clear hK K)
          refine wpAny_end (by kernel_rfl) ?_
          go_wp2
          refine bodyPost_ret (res_ct (by rfl) (by rfl) (by rfl) H9.out.1.cells Tryd.underlying35 szCab) rfl ?_
          exact ⟨{ c with inn := si, heard := sh }, n, rfl, A1, c1, L1, d1, rfl, (HNAv8.out.only H9.out.2 (by omega)).mono (by omega), (HNLv8.out.only H9.out.2 (by omega)).mono (by omega), eonly HXv8.out H9.out.2 (by omega)⟩
        · go_wp2
          try (refine hK _ _ ?_; clear hK K)
          refine wpAny_go (rs := [4]) (by kernel_rfl) (by simp) (AllO.cons rfl rfl (fun K hK => ?_) (AllO.nil))
          go_wp2
          try (refine hK _ _ ?_; clear hK K)
          refine wpAny_go (rs := [6]) (by kernel_rfl) (by simp) (AllO.cons rfl rfl (fun K hK => ?_) (AllO.nil))
          refine wpo_stN 35 [.int .i64 c.T.id, .string c.T.name, .int .i64 c.T.len, .int .i64 c.T.speed, .int .i64 c.T.accel, .int .i64 c.T.service, .int .i64 c.T.emergency, .int .i64 c.T.delay, .int .i64 c.T.cons, .int .i64 c.T.rate, .int .i64 c.mode, .int .i64 c.brake, .int .i64 c.next, .int .i64 c.E.min, .int .i64 c.E.max, .int .i64 c.E.speed, .int .i64 c.seq, .int .i64 c.en, .slice A1 c.p.length c1, .slice L1 c.k.length d1, .int .i64 c.peer, .int .i64 c.out, .int .i64 si, .int .i64 sh, .bool c.known, .int .i64 c.since] [.int .i64 c.T.id, .string c.T.name, .int .i64 c.T.len, .int .i64 c.T.speed, .int .i64 c.T.accel, .int .i64 c.T.service, .int .i64 c.T.emergency, .int .i64 c.T.delay, .int .i64 c.T.cons, .int .i64 c.T.rate, .int .i64 c.mode, .int .i64 c.brake, .int .i64 c.next, .int .i64 c.E.min, .int .i64 c.E.max, .int .i64 c.E.speed, .int .i64 c.seq, .int .i64 c.en, .slice A1 c.p.length c1, .slice L1 c.k.length d1, .int .i64 c.peer, .int .i64 c.out, .int .i64 si, .int .i64 sh, .bool c.known, .int .i64 c.since] rfl rfl (HORv8.out) rfl szCab rfl (by show (0 + 26 : Nat) ≤ 26; decide) rfl ?_; intro w9 H9
          try (refine hK _ _ ?_; clear hK K)
          refine wpAny_go (rs := [7]) (by kernel_rfl) (by simp) (AllO.cons rfl rfl (fun K hK => ?_) (AllO.nil))
          go_wp2
          try (refine hK _ _ ?_; clear hK K)
          refine wpAny_end (by kernel_rfl) ?_
          go_wp2
          refine bodyPost_ret (res_ct (by rfl) (by rfl) (by rfl) H9.out.1.cells Tryd.underlying35 szCab) rfl ?_
          exact ⟨{ c with inn := si, heard := sh }, n, rfl, A1, c1, L1, d1, rfl, (HNAv8.out.only H9.out.2 (by omega)).mono (by omega), (HNLv8.out.only H9.out.2 (by omega)).mono (by omega), eonly HXv8.out H9.out.2 (by omega)⟩
    · have HEC := Lib.hid he
      clear he HEK
      have hm : ∀ x : World, (method 271 118 (.agg #[]) "signalling/cab.apply").run Tryd.prog x = .ok (157, .agg #[]) x := fun _ => by kernel_rfl
      go_upto_region 6 with (first | (refine wp_ldN 31 [.int .i64 c.peer, .int .i64 c.out, .int .i64 si, .int .i64 sh] rfl rfl rfl (HOS5.out).cells Tryd.underlying31 szSes rfl ?_) | (refine wp_stN 31 [.int .i64 c.T.id, .string c.T.name, .int .i64 c.T.len, .int .i64 c.T.speed, .int .i64 c.T.accel, .int .i64 c.T.service, .int .i64 c.T.emergency, .int .i64 c.T.delay, .int .i64 c.T.cons, .int .i64 c.T.rate, .int .i64 c.mode, .int .i64 c.brake, .int .i64 c.next, .int .i64 c.E.min, .int .i64 c.E.max, .int .i64 c.E.speed, .int .i64 c.seq, .int .i64 c.en, .slice A1 c.p.length c1, .slice L1 c.k.length d1, .int .i64 c.peer, .int .i64 c.out, .int .i64 si, .int .i64 sh, .bool c.known, .int .i64 c.since] [.int .i64 c.peer, .int .i64 c.out, .int .i64 si, .int .i64 sh] rfl rfl rfl (HOCv4.out) rfl szSes rfl (by show (20 + 4 : Nat) ≤ 26; decide) rfl ?_; intro w6 H6))
      have HOCv5 := Lib.hid (H6.out.1)
      have HOMv5 := Lib.hid (HOMv4.out.only H6.out.2 (by omega))
      have HORv5 := Lib.hid (HORv4.out.only H6.out.2 (by omega))
      have HNAv5 := Lib.hid (HNAv4.out.only H6.out.2 (by omega))
      have HNLv5 := Lib.hid (HNLv4.out.only H6.out.2 (by omega))
      have HXv5 := Lib.hid (eonly HXv4.out H6.out.2 (by omega))
      clear H6
      refine wp_region_orders 8 rfl (by kernel_rfl) (fun wd hwd => ?_)
      have HOCv6 := Lib.hid (HOCv5.out.keep hwd)
      have HOMv6 := Lib.hid (HOMv5.out.keep hwd)
      have HORv6 := Lib.hid (HORv5.out.keep hwd)
      have HNAv6 := Lib.hid (HNAv5.out.keep hwd)
      have HNLv6 := Lib.hid (HNLv5.out.keep hwd)
      have HXv6 := Lib.hid (etr HXv5.out hwd)
      clear hwd
      dsimp only [Act.put]
      refine wpAny_go (rs := [0, 2]) (by kernel_rfl) (by simp) (AllO.cons rfl rfl (fun K hK => ?_) (AllO.cons rfl rfl (fun K hK => ?_) (AllO.nil)))
      · refine wpo_ldN 39 [.int .i64 m.kind, .int .i64 m.frm, .int .i64 m.to_, .int .i64 m.seq, .int .i64 m.time, .int .i64 m.aseq, .int .i64 m.aen, .slice B m.p.length cb, .slice D m.k.length ck, .int .i64 m.rmin, .int .i64 m.rspeed, .int .i64 m.rmode, .int .i64 m.racc, .bool m.rwhole] rfl rfl (HOMv6.out).cells Tryd.underlying39 szMsg rfl ?_
        try (refine hK _ _ ?_; clear hK K)
        refine wpAny_go (rs := [1, 2]) (by kernel_rfl) (by simp) (AllO.cons rfl rfl (fun K hK => ?_) (AllO.cons rfl rfl (fun K hK => ?_) (AllO.nil)))
        · go_wp2_with fail
          refine (HEC.out _).mono ?_
          rintro e we ⟨rfl, hbe⟩
          have HOCv7 := Lib.hid (HOCv6.out.keep hbe)
          have HOMv7 := Lib.hid (HOMv6.out.keep hbe)
          have HORv7 := Lib.hid (HORv6.out.keep hbe)
          have HNAv7 := Lib.hid (HNAv6.out.keep hbe)
          have HNLv7 := Lib.hid (HNLv6.out.keep hbe)
          have HXv7 := Lib.hid (etr HXv6.out hbe)
          clear hbe
          go_wp2
          try (refine hK _ _ ?_; clear hK K)
          refine wpAny_go (rs := [2]) (by kernel_rfl) (by simp) (AllO.cons rfl rfl (fun K hK => ?_) (AllO.nil))
          refine wpo_ldN 35 [.int .i64 c.T.id, .string c.T.name, .int .i64 c.T.len, .int .i64 c.T.speed, .int .i64 c.T.accel, .int .i64 c.T.service, .int .i64 c.T.emergency, .int .i64 c.T.delay, .int .i64 c.T.cons, .int .i64 c.T.rate, .int .i64 c.mode, .int .i64 c.brake, .int .i64 c.next, .int .i64 c.E.min, .int .i64 c.E.max, .int .i64 c.E.speed, .int .i64 c.seq, .int .i64 c.en, .slice A1 c.p.length c1, .slice L1 c.k.length d1, .int .i64 c.peer, .int .i64 c.out, .int .i64 si, .int .i64 sh, .bool c.known, .int .i64 c.since] rfl rfl (HOCv7.out).cells Tryd.underlying35 szCab rfl ?_
          try (refine hK _ _ ?_; clear hK K)
          refine wpAny_go (rs := [3]) (by kernel_rfl) (by simp) (AllO.cons rfl rfl (fun K hK => ?_) (AllO.nil))
          go_wp2_with fail
          refine (HG0.out si sh A1 L1 c1 d1 _ HXv7.out).mono ?_
          rintro e w8 ⟨n, rfl, hb⟩
          have zr := HORv7.out.1
          have HOCv8 := Lib.hid (HOCv7.out.keep hb)
          have HOMv8 := Lib.hid (HOMv7.out.keep hb)
          have HORv8 := Lib.hid (HORv7.out.keep hb)
          have HNAv8 := Lib.hid (HNAv7.out.keep hb)
          have HNLv8 := Lib.hid (HNLv7.out.keep hb)
          have HXv8 := Lib.hid (etr HXv7.out hb)
          clear hb
          go_wp2
          try (refine hK _ _ ?_; clear hK K)
          refine wpAny_go (rs := [4, 5]) (by kernel_rfl) (by simp) (AllO.cons rfl rfl (fun K hK => ?_) (AllO.cons rfl rfl (fun K hK => ?_) (AllO.nil)))
          · go_wp2
            try (refine hK _ _ ?_; clear hK K)
            refine wpAny_go (rs := [5]) (by kernel_rfl) (by simp) (AllO.cons rfl rfl (fun K hK => ?_) (AllO.nil))
            go_wp2
            try (refine hK _ _ ?_; clear hK K)
            refine wpAny_go (rs := [6]) (by kernel_rfl) (by simp) (AllO.cons rfl rfl (fun K hK => ?_) (AllO.nil))
            refine wpo_stN 35 [.int .i64 c.T.id, .string c.T.name, .int .i64 c.T.len, .int .i64 c.T.speed, .int .i64 c.T.accel, .int .i64 c.T.service, .int .i64 c.T.emergency, .int .i64 c.T.delay, .int .i64 c.T.cons, .int .i64 c.T.rate, .int .i64 c.mode, .int .i64 c.brake, .int .i64 c.next, .int .i64 c.E.min, .int .i64 c.E.max, .int .i64 c.E.speed, .int .i64 c.seq, .int .i64 c.en, .slice A1 c.p.length c1, .slice L1 c.k.length d1, .int .i64 c.peer, .int .i64 c.out, .int .i64 si, .int .i64 sh, .bool c.known, .int .i64 c.since] [.int .i64 c.T.id, .string c.T.name, .int .i64 c.T.len, .int .i64 c.T.speed, .int .i64 c.T.accel, .int .i64 c.T.service, .int .i64 c.T.emergency, .int .i64 c.T.delay, .int .i64 c.T.cons, .int .i64 c.T.rate, .int .i64 c.mode, .int .i64 c.brake, .int .i64 c.next, .int .i64 c.E.min, .int .i64 c.E.max, .int .i64 c.E.speed, .int .i64 c.seq, .int .i64 c.en, .slice A1 c.p.length c1, .slice L1 c.k.length d1, .int .i64 c.peer, .int .i64 c.out, .int .i64 si, .int .i64 sh, .bool c.known, .int .i64 c.since] rfl rfl (HORv8.out) rfl szCab rfl (by show (0 + 26 : Nat) ≤ 26; decide) rfl ?_; intro w9 H9
            try (refine hK _ _ ?_; clear hK K)
            refine wpAny_go (rs := [7]) (by kernel_rfl) (by simp) (AllO.cons rfl rfl (fun K hK => ?_) (AllO.nil))
            go_wp2
            try (refine hK _ _ ?_; clear hK K)
            refine wpAny_end (by kernel_rfl) ?_
            go_wp2
            refine bodyPost_ret (res_ct (by rfl) (by rfl) (by rfl) H9.out.1.cells Tryd.underlying35 szCab) rfl ?_
            exact ⟨{ c with inn := si, heard := sh }, n, rfl, A1, c1, L1, d1, rfl, (HNAv8.out.only H9.out.2 (by omega)).mono (by omega), (HNLv8.out.only H9.out.2 (by omega)).mono (by omega), eonly HXv8.out H9.out.2 (by omega)⟩
          · go_wp2
            try (refine hK _ _ ?_; clear hK K)
            refine wpAny_go (rs := [4]) (by kernel_rfl) (by simp) (AllO.cons rfl rfl (fun K hK => ?_) (AllO.nil))
            go_wp2
            try (refine hK _ _ ?_; clear hK K)
            refine wpAny_go (rs := [6]) (by kernel_rfl) (by simp) (AllO.cons rfl rfl (fun K hK => ?_) (AllO.nil))
            refine wpo_stN 35 [.int .i64 c.T.id, .string c.T.name, .int .i64 c.T.len, .int .i64 c.T.speed, .int .i64 c.T.accel, .int .i64 c.T.service, .int .i64 c.T.emergency, .int .i64 c.T.delay, .int .i64 c.T.cons, .int .i64 c.T.rate, .int .i64 c.mode, .int .i64 c.brake, .int .i64 c.next, .int .i64 c.E.min, .int .i64 c.E.max, .int .i64 c.E.speed, .int .i64 c.seq, .int .i64 c.en, .slice A1 c.p.length c1, .slice L1 c.k.length d1, .int .i64 c.peer, .int .i64 c.out, .int .i64 si, .int .i64 sh, .bool c.known, .int .i64 c.since] [.int .i64 c.T.id, .string c.T.name, .int .i64 c.T.len, .int .i64 c.T.speed, .int .i64 c.T.accel, .int .i64 c.T.service, .int .i64 c.T.emergency, .int .i64 c.T.delay, .int .i64 c.T.cons, .int .i64 c.T.rate, .int .i64 c.mode, .int .i64 c.brake, .int .i64 c.next, .int .i64 c.E.min, .int .i64 c.E.max, .int .i64 c.E.speed, .int .i64 c.seq, .int .i64 c.en, .slice A1 c.p.length c1, .slice L1 c.k.length d1, .int .i64 c.peer, .int .i64 c.out, .int .i64 si, .int .i64 sh, .bool c.known, .int .i64 c.since] rfl rfl (HORv8.out) rfl szCab rfl (by show (0 + 26 : Nat) ≤ 26; decide) rfl ?_; intro w9 H9
            try (refine hK _ _ ?_; clear hK K)
            refine wpAny_go (rs := [7]) (by kernel_rfl) (by simp) (AllO.cons rfl rfl (fun K hK => ?_) (AllO.nil))
            go_wp2
            try (refine hK _ _ ?_; clear hK K)
            refine wpAny_end (by kernel_rfl) ?_
            go_wp2
            refine bodyPost_ret (res_ct (by rfl) (by rfl) (by rfl) H9.out.1.cells Tryd.underlying35 szCab) rfl ?_
            exact ⟨{ c with inn := si, heard := sh }, n, rfl, A1, c1, L1, d1, rfl, (HNAv8.out.only H9.out.2 (by omega)).mono (by omega), (HNLv8.out.only H9.out.2 (by omega)).mono (by omega), eonly HXv8.out H9.out.2 (by omega)⟩
        · refine wpo_ldN 35 [.int .i64 c.T.id, .string c.T.name, .int .i64 c.T.len, .int .i64 c.T.speed, .int .i64 c.T.accel, .int .i64 c.T.service, .int .i64 c.T.emergency, .int .i64 c.T.delay, .int .i64 c.T.cons, .int .i64 c.T.rate, .int .i64 c.mode, .int .i64 c.brake, .int .i64 c.next, .int .i64 c.E.min, .int .i64 c.E.max, .int .i64 c.E.speed, .int .i64 c.seq, .int .i64 c.en, .slice A1 c.p.length c1, .slice L1 c.k.length d1, .int .i64 c.peer, .int .i64 c.out, .int .i64 si, .int .i64 sh, .bool c.known, .int .i64 c.since] rfl rfl (HOCv6.out).cells Tryd.underlying35 szCab rfl ?_
          try (refine hK _ _ ?_; clear hK K)
          refine wpAny_go (rs := [1]) (by kernel_rfl) (by simp) (AllO.cons rfl rfl (fun K hK => ?_) (AllO.nil))
          go_wp2_with fail
          refine (HEC.out _).mono ?_
          rintro e we ⟨rfl, hbe⟩
          have HOCv7 := Lib.hid (HOCv6.out.keep hbe)
          have HOMv7 := Lib.hid (HOMv6.out.keep hbe)
          have HORv7 := Lib.hid (HORv6.out.keep hbe)
          have HNAv7 := Lib.hid (HNAv6.out.keep hbe)
          have HNLv7 := Lib.hid (HNLv6.out.keep hbe)
          have HXv7 := Lib.hid (etr HXv6.out hbe)
          clear hbe
          go_wp2
          try (refine hK _ _ ?_; clear hK K)
          refine wpAny_go (rs := [3]) (by kernel_rfl) (by simp) (AllO.cons rfl rfl (fun K hK => ?_) (AllO.nil))
          go_wp2_with fail
          refine (HG0.out si sh A1 L1 c1 d1 _ HXv7.out).mono ?_
          rintro e w8 ⟨n, rfl, hb⟩
          have zr := HORv7.out.1
          have HOCv8 := Lib.hid (HOCv7.out.keep hb)
          have HOMv8 := Lib.hid (HOMv7.out.keep hb)
          have HORv8 := Lib.hid (HORv7.out.keep hb)
          have HNAv8 := Lib.hid (HNAv7.out.keep hb)
          have HNLv8 := Lib.hid (HNLv7.out.keep hb)
          have HXv8 := Lib.hid (etr HXv7.out hb)
          clear hb
          go_wp2
          try (refine hK _ _ ?_; clear hK K)
          refine wpAny_go (rs := [4, 5]) (by kernel_rfl) (by simp) (AllO.cons rfl rfl (fun K hK => ?_) (AllO.cons rfl rfl (fun K hK => ?_) (AllO.nil)))
          · go_wp2
            try (refine hK _ _ ?_; clear hK K)
            refine wpAny_go (rs := [5]) (by kernel_rfl) (by simp) (AllO.cons rfl rfl (fun K hK => ?_) (AllO.nil))
            go_wp2
            try (refine hK _ _ ?_; clear hK K)
            refine wpAny_go (rs := [6]) (by kernel_rfl) (by simp) (AllO.cons rfl rfl (fun K hK => ?_) (AllO.nil))
            refine wpo_stN 35 [.int .i64 c.T.id, .string c.T.name, .int .i64 c.T.len, .int .i64 c.T.speed, .int .i64 c.T.accel, .int .i64 c.T.service, .int .i64 c.T.emergency, .int .i64 c.T.delay, .int .i64 c.T.cons, .int .i64 c.T.rate, .int .i64 c.mode, .int .i64 c.brake, .int .i64 c.next, .int .i64 c.E.min, .int .i64 c.E.max, .int .i64 c.E.speed, .int .i64 c.seq, .int .i64 c.en, .slice A1 c.p.length c1, .slice L1 c.k.length d1, .int .i64 c.peer, .int .i64 c.out, .int .i64 si, .int .i64 sh, .bool c.known, .int .i64 c.since] [.int .i64 c.T.id, .string c.T.name, .int .i64 c.T.len, .int .i64 c.T.speed, .int .i64 c.T.accel, .int .i64 c.T.service, .int .i64 c.T.emergency, .int .i64 c.T.delay, .int .i64 c.T.cons, .int .i64 c.T.rate, .int .i64 c.mode, .int .i64 c.brake, .int .i64 c.next, .int .i64 c.E.min, .int .i64 c.E.max, .int .i64 c.E.speed, .int .i64 c.seq, .int .i64 c.en, .slice A1 c.p.length c1, .slice L1 c.k.length d1, .int .i64 c.peer, .int .i64 c.out, .int .i64 si, .int .i64 sh, .bool c.known, .int .i64 c.since] rfl rfl (HORv8.out) rfl szCab rfl (by show (0 + 26 : Nat) ≤ 26; decide) rfl ?_; intro w9 H9
            try (refine hK _ _ ?_; clear hK K)
            refine wpAny_go (rs := [7]) (by kernel_rfl) (by simp) (AllO.cons rfl rfl (fun K hK => ?_) (AllO.nil))
            go_wp2
            try (refine hK _ _ ?_; clear hK K)
            refine wpAny_end (by kernel_rfl) ?_
            go_wp2
            refine bodyPost_ret (res_ct (by rfl) (by rfl) (by rfl) H9.out.1.cells Tryd.underlying35 szCab) rfl ?_
            exact ⟨{ c with inn := si, heard := sh }, n, rfl, A1, c1, L1, d1, rfl, (HNAv8.out.only H9.out.2 (by omega)).mono (by omega), (HNLv8.out.only H9.out.2 (by omega)).mono (by omega), eonly HXv8.out H9.out.2 (by omega)⟩
          · go_wp2
            try (refine hK _ _ ?_; clear hK K)
            refine wpAny_go (rs := [4]) (by kernel_rfl) (by simp) (AllO.cons rfl rfl (fun K hK => ?_) (AllO.nil))
            go_wp2
            try (refine hK _ _ ?_; clear hK K)
            refine wpAny_go (rs := [6]) (by kernel_rfl) (by simp) (AllO.cons rfl rfl (fun K hK => ?_) (AllO.nil))
            refine wpo_stN 35 [.int .i64 c.T.id, .string c.T.name, .int .i64 c.T.len, .int .i64 c.T.speed, .int .i64 c.T.accel, .int .i64 c.T.service, .int .i64 c.T.emergency, .int .i64 c.T.delay, .int .i64 c.T.cons, .int .i64 c.T.rate, .int .i64 c.mode, .int .i64 c.brake, .int .i64 c.next, .int .i64 c.E.min, .int .i64 c.E.max, .int .i64 c.E.speed, .int .i64 c.seq, .int .i64 c.en, .slice A1 c.p.length c1, .slice L1 c.k.length d1, .int .i64 c.peer, .int .i64 c.out, .int .i64 si, .int .i64 sh, .bool c.known, .int .i64 c.since] [.int .i64 c.T.id, .string c.T.name, .int .i64 c.T.len, .int .i64 c.T.speed, .int .i64 c.T.accel, .int .i64 c.T.service, .int .i64 c.T.emergency, .int .i64 c.T.delay, .int .i64 c.T.cons, .int .i64 c.T.rate, .int .i64 c.mode, .int .i64 c.brake, .int .i64 c.next, .int .i64 c.E.min, .int .i64 c.E.max, .int .i64 c.E.speed, .int .i64 c.seq, .int .i64 c.en, .slice A1 c.p.length c1, .slice L1 c.k.length d1, .int .i64 c.peer, .int .i64 c.out, .int .i64 si, .int .i64 sh, .bool c.known, .int .i64 c.since] rfl rfl (HORv8.out) rfl szCab rfl (by show (0 + 26 : Nat) ≤ 26; decide) rfl ?_; intro w9 H9
            try (refine hK _ _ ?_; clear hK K)
            refine wpAny_go (rs := [7]) (by kernel_rfl) (by simp) (AllO.cons rfl rfl (fun K hK => ?_) (AllO.nil))
            go_wp2
            try (refine hK _ _ ?_; clear hK K)
            refine wpAny_end (by kernel_rfl) ?_
            go_wp2
            refine bodyPost_ret (res_ct (by rfl) (by rfl) (by rfl) H9.out.1.cells Tryd.underlying35 szCab) rfl ?_
            exact ⟨{ c with inn := si, heard := sh }, n, rfl, A1, c1, L1, d1, rfl, (HNAv8.out.only H9.out.2 (by omega)).mono (by omega), (HNLv8.out.only H9.out.2 (by omega)).mono (by omega), eonly HXv8.out H9.out.2 (by omega)⟩
      · refine wpo_ldN 35 [.int .i64 c.T.id, .string c.T.name, .int .i64 c.T.len, .int .i64 c.T.speed, .int .i64 c.T.accel, .int .i64 c.T.service, .int .i64 c.T.emergency, .int .i64 c.T.delay, .int .i64 c.T.cons, .int .i64 c.T.rate, .int .i64 c.mode, .int .i64 c.brake, .int .i64 c.next, .int .i64 c.E.min, .int .i64 c.E.max, .int .i64 c.E.speed, .int .i64 c.seq, .int .i64 c.en, .slice A1 c.p.length c1, .slice L1 c.k.length d1, .int .i64 c.peer, .int .i64 c.out, .int .i64 si, .int .i64 sh, .bool c.known, .int .i64 c.since] rfl rfl (HOCv6.out).cells Tryd.underlying35 szCab rfl ?_
        try (refine hK _ _ ?_; clear hK K)
        refine wpAny_go (rs := [0]) (by kernel_rfl) (by simp) (AllO.cons rfl rfl (fun K hK => ?_) (AllO.nil))
        refine wpo_ldN 39 [.int .i64 m.kind, .int .i64 m.frm, .int .i64 m.to_, .int .i64 m.seq, .int .i64 m.time, .int .i64 m.aseq, .int .i64 m.aen, .slice B m.p.length cb, .slice D m.k.length ck, .int .i64 m.rmin, .int .i64 m.rspeed, .int .i64 m.rmode, .int .i64 m.racc, .bool m.rwhole] rfl rfl (HOMv6.out).cells Tryd.underlying39 szMsg rfl ?_
        try (refine hK _ _ ?_; clear hK K)
        refine wpAny_go (rs := [1]) (by kernel_rfl) (by simp) (AllO.cons rfl rfl (fun K hK => ?_) (AllO.nil))
        go_wp2_with fail
        refine (HEC.out _).mono ?_
        rintro e we ⟨rfl, hbe⟩
        have HOCv7 := Lib.hid (HOCv6.out.keep hbe)
        have HOMv7 := Lib.hid (HOMv6.out.keep hbe)
        have HORv7 := Lib.hid (HORv6.out.keep hbe)
        have HNAv7 := Lib.hid (HNAv6.out.keep hbe)
        have HNLv7 := Lib.hid (HNLv6.out.keep hbe)
        have HXv7 := Lib.hid (etr HXv6.out hbe)
        clear hbe
        go_wp2
        try (refine hK _ _ ?_; clear hK K)
        refine wpAny_go (rs := [3]) (by kernel_rfl) (by simp) (AllO.cons rfl rfl (fun K hK => ?_) (AllO.nil))
        go_wp2_with fail
        refine (HG0.out si sh A1 L1 c1 d1 _ HXv7.out).mono ?_
        rintro e w8 ⟨n, rfl, hb⟩
        have zr := HORv7.out.1
        have HOCv8 := Lib.hid (HOCv7.out.keep hb)
        have HOMv8 := Lib.hid (HOMv7.out.keep hb)
        have HORv8 := Lib.hid (HORv7.out.keep hb)
        have HNAv8 := Lib.hid (HNAv7.out.keep hb)
        have HNLv8 := Lib.hid (HNLv7.out.keep hb)
        have HXv8 := Lib.hid (etr HXv7.out hb)
        clear hb
        go_wp2
        try (refine hK _ _ ?_; clear hK K)
        refine wpAny_go (rs := [4, 5]) (by kernel_rfl) (by simp) (AllO.cons rfl rfl (fun K hK => ?_) (AllO.cons rfl rfl (fun K hK => ?_) (AllO.nil)))
        · go_wp2
          try (refine hK _ _ ?_; clear hK K)
          refine wpAny_go (rs := [5]) (by kernel_rfl) (by simp) (AllO.cons rfl rfl (fun K hK => ?_) (AllO.nil))
          go_wp2
          try (refine hK _ _ ?_; clear hK K)
          refine wpAny_go (rs := [6]) (by kernel_rfl) (by simp) (AllO.cons rfl rfl (fun K hK => ?_) (AllO.nil))
          refine wpo_stN 35 [.int .i64 c.T.id, .string c.T.name, .int .i64 c.T.len, .int .i64 c.T.speed, .int .i64 c.T.accel, .int .i64 c.T.service, .int .i64 c.T.emergency, .int .i64 c.T.delay, .int .i64 c.T.cons, .int .i64 c.T.rate, .int .i64 c.mode, .int .i64 c.brake, .int .i64 c.next, .int .i64 c.E.min, .int .i64 c.E.max, .int .i64 c.E.speed, .int .i64 c.seq, .int .i64 c.en, .slice A1 c.p.length c1, .slice L1 c.k.length d1, .int .i64 c.peer, .int .i64 c.out, .int .i64 si, .int .i64 sh, .bool c.known, .int .i64 c.since] [.int .i64 c.T.id, .string c.T.name, .int .i64 c.T.len, .int .i64 c.T.speed, .int .i64 c.T.accel, .int .i64 c.T.service, .int .i64 c.T.emergency, .int .i64 c.T.delay, .int .i64 c.T.cons, .int .i64 c.T.rate, .int .i64 c.mode, .int .i64 c.brake, .int .i64 c.next, .int .i64 c.E.min, .int .i64 c.E.max, .int .i64 c.E.speed, .int .i64 c.seq, .int .i64 c.en, .slice A1 c.p.length c1, .slice L1 c.k.length d1, .int .i64 c.peer, .int .i64 c.out, .int .i64 si, .int .i64 sh, .bool c.known, .int .i64 c.since] rfl rfl (HORv8.out) rfl szCab rfl (by show (0 + 26 : Nat) ≤ 26; decide) rfl ?_; intro w9 H9
          try (refine hK _ _ ?_; clear hK K)
          refine wpAny_go (rs := [7]) (by kernel_rfl) (by simp) (AllO.cons rfl rfl (fun K hK => ?_) (AllO.nil))
          go_wp2
          try (refine hK _ _ ?_; clear hK K)
          refine wpAny_end (by kernel_rfl) ?_
          go_wp2
          refine bodyPost_ret (res_ct (by rfl) (by rfl) (by rfl) H9.out.1.cells Tryd.underlying35 szCab) rfl ?_
          exact ⟨{ c with inn := si, heard := sh }, n, rfl, A1, c1, L1, d1, rfl, (HNAv8.out.only H9.out.2 (by omega)).mono (by omega), (HNLv8.out.only H9.out.2 (by omega)).mono (by omega), eonly HXv8.out H9.out.2 (by omega)⟩
        · go_wp2
          try (refine hK _ _ ?_; clear hK K)
          refine wpAny_go (rs := [4]) (by kernel_rfl) (by simp) (AllO.cons rfl rfl (fun K hK => ?_) (AllO.nil))
          go_wp2
          try (refine hK _ _ ?_; clear hK K)
          refine wpAny_go (rs := [6]) (by kernel_rfl) (by simp) (AllO.cons rfl rfl (fun K hK => ?_) (AllO.nil))
          refine wpo_stN 35 [.int .i64 c.T.id, .string c.T.name, .int .i64 c.T.len, .int .i64 c.T.speed, .int .i64 c.T.accel, .int .i64 c.T.service, .int .i64 c.T.emergency, .int .i64 c.T.delay, .int .i64 c.T.cons, .int .i64 c.T.rate, .int .i64 c.mode, .int .i64 c.brake, .int .i64 c.next, .int .i64 c.E.min, .int .i64 c.E.max, .int .i64 c.E.speed, .int .i64 c.seq, .int .i64 c.en, .slice A1 c.p.length c1, .slice L1 c.k.length d1, .int .i64 c.peer, .int .i64 c.out, .int .i64 si, .int .i64 sh, .bool c.known, .int .i64 c.since] [.int .i64 c.T.id, .string c.T.name, .int .i64 c.T.len, .int .i64 c.T.speed, .int .i64 c.T.accel, .int .i64 c.T.service, .int .i64 c.T.emergency, .int .i64 c.T.delay, .int .i64 c.T.cons, .int .i64 c.T.rate, .int .i64 c.mode, .int .i64 c.brake, .int .i64 c.next, .int .i64 c.E.min, .int .i64 c.E.max, .int .i64 c.E.speed, .int .i64 c.seq, .int .i64 c.en, .slice A1 c.p.length c1, .slice L1 c.k.length d1, .int .i64 c.peer, .int .i64 c.out, .int .i64 si, .int .i64 sh, .bool c.known, .int .i64 c.since] rfl rfl (HORv8.out) rfl szCab rfl (by show (0 + 26 : Nat) ≤ 26; decide) rfl ?_; intro w9 H9
          try (refine hK _ _ ?_; clear hK K)
          refine wpAny_go (rs := [7]) (by kernel_rfl) (by simp) (AllO.cons rfl rfl (fun K hK => ?_) (AllO.nil))
          go_wp2
          try (refine hK _ _ ?_; clear hK K)
          refine wpAny_end (by kernel_rfl) ?_
          go_wp2
          refine bodyPost_ret (res_ct (by rfl) (by rfl) (by rfl) H9.out.1.cells Tryd.underlying35 szCab) rfl ?_
          exact ⟨{ c with inn := si, heard := sh }, n, rfl, A1, c1, L1, d1, rfl, (HNAv8.out.only H9.out.2 (by omega)).mono (by omega), (HNLv8.out.only H9.out.2 (by omega)).mono (by omega), eonly HXv8.out H9.out.2 (by omega)⟩
  · go_wp2_with (first | (refine wp_ldN 35 [.int .i64 c.T.id, .string c.T.name, .int .i64 c.T.len, .int .i64 c.T.speed, .int .i64 c.T.accel, .int .i64 c.T.service, .int .i64 c.T.emergency, .int .i64 c.T.delay, .int .i64 c.T.cons, .int .i64 c.T.rate, .int .i64 c.mode, .int .i64 c.brake, .int .i64 c.next, .int .i64 c.E.min, .int .i64 c.E.max, .int .i64 c.E.speed, .int .i64 c.seq, .int .i64 c.en, .slice A1 c.p.length c1, .slice L1 c.k.length d1, .int .i64 c.peer, .int .i64 c.out, .int .i64 c.inn, .int .i64 c.heard, .bool c.known, .int .i64 c.since] rfl rfl rfl (HOCv4.out).cells Tryd.underlying35 szCab rfl ?_) | (refine wp_stN 35 [.int .i64 c.T.id, .string c.T.name, .int .i64 c.T.len, .int .i64 c.T.speed, .int .i64 c.T.accel, .int .i64 c.T.service, .int .i64 c.T.emergency, .int .i64 c.T.delay, .int .i64 c.T.cons, .int .i64 c.T.rate, .int .i64 c.mode, .int .i64 c.brake, .int .i64 c.next, .int .i64 c.E.min, .int .i64 c.E.max, .int .i64 c.E.speed, .int .i64 c.seq, .int .i64 c.en, .slice A1 c.p.length c1, .slice L1 c.k.length d1, .int .i64 c.peer, .int .i64 c.out, .int .i64 c.inn, .int .i64 c.heard, .bool c.known, .int .i64 c.since] [.int .i64 c.T.id, .string c.T.name, .int .i64 c.T.len, .int .i64 c.T.speed, .int .i64 c.T.accel, .int .i64 c.T.service, .int .i64 c.T.emergency, .int .i64 c.T.delay, .int .i64 c.T.cons, .int .i64 c.T.rate, .int .i64 c.mode, .int .i64 c.brake, .int .i64 c.next, .int .i64 c.E.min, .int .i64 c.E.max, .int .i64 c.E.speed, .int .i64 c.seq, .int .i64 c.en, .slice A1 c.p.length c1, .slice L1 c.k.length d1, .int .i64 c.peer, .int .i64 c.out, .int .i64 c.inn, .int .i64 c.heard, .bool c.known, .int .i64 c.since] rfl rfl rfl (HORv4.out) rfl szCab rfl (by show (0 + 26 : Nat) ≤ 26; decide) rfl ?_; intro w9 H9))
    refine bodyPost_ret (res_ct (by rfl) (by rfl) (by rfl) H9.out.1.cells Tryd.underlying35 szCab) rfl ?_
    exact ⟨c, t, rfl, A1, c1, L1, d1, rfl, (HNAv4.out.only H9.out.2 (by omega)).mono (by omega), (HNLv4.out.only H9.out.2 (by omega)).mono (by omega), eonly HXv4.out H9.out.2 (by omega)⟩
end Go.Proofs.YtbgmknkmfhpgeaaDoor
