/- Chapter 46: CabEvents. -/
import Derived.Test.YtbgmknkmfhpgeaaDoorWCabM
import Derived.Test.YtbgmknkmfhpgeaaDoorWCabE
import Derived.Test.YtbgmknkmfhpgeaaDoorWCabF
import Derived.Test.YtbgmknkmfhpgeaaDoorRowQ
set_option linter.unusedVariables false
set_option linter.unusedSimpArgs false
set_option maxRecDepth 100000
namespace Go.Proofs.YtbgmknkmfhpgeaaDoor
open Go.ChangeShapes Go.WideShapes Go.ChangeAt Go.RowKit
open Sg
set_option maxHeartbeats 32000000 in
theorem law_events (c : Cb) (A L : Option Addr) (ca cl : Nat) (ev now : Int) (w : World) (ht : Tabs w) (hs : c.T.name.size ≤ maxLen) (hkm : c.k.length ≤ maxLen) (hr : Rd w A 4 Sgc c.p) (hr2 : Rd w L 2 Lkc c.k) (io : I64 c.out) (is : I64 c.since) (inw : I64 now) :
    Calls Tryd.prog 6 #[.agg #[.int .i64 c.T.id, .string c.T.name, .int .i64 c.T.len, .int .i64 c.T.speed, .int .i64 c.T.accel, .int .i64 c.T.service, .int .i64 c.T.emergency, .int .i64 c.T.delay, .int .i64 c.T.cons, .int .i64 c.T.rate, .int .i64 c.mode, .int .i64 c.brake, .int .i64 c.next, .int .i64 c.E.min, .int .i64 c.E.max, .int .i64 c.E.speed, .int .i64 c.seq, .int .i64 c.en, .slice A c.p.length ca, .slice L c.k.length cl, .int .i64 c.peer, .int .i64 c.out, .int .i64 c.inn, .int .i64 c.heard, .bool c.known, .int .i64 c.since], .int .i64 ev, .int .i64 now] w fun e w' => e = .returned (.bool true) ∧ Below w.heap.size w w' := by
  have HP := Lib.hid hr
  have HK := Lib.hid hr2
  have HT := Lib.hid ht
  obtain ⟨w1, hw⟩ : ∃ w1, w1 = (w.alloc (.cells #[.int .i64 c.T.id, .string c.T.name, .int .i64 c.T.len, .int .i64 c.T.speed, .int .i64 c.T.accel, .int .i64 c.T.service, .int .i64 c.T.emergency, .int .i64 c.T.delay, .int .i64 c.T.cons, .int .i64 c.T.rate, .int .i64 c.mode, .int .i64 c.brake, .int .i64 c.next, .int .i64 c.E.min, .int .i64 c.E.max, .int .i64 c.E.speed, .int .i64 c.seq, .int .i64 c.en, .slice A c.p.length ca, .slice L c.k.length cl, .int .i64 c.peer, .int .i64 c.out, .int .i64 c.inn, .int .i64 c.heard, .bool c.known, .int .i64 c.since] 35)) := ⟨_, rfl⟩
  have HE0 : Hid (Ext w w1) := by rw [hw]; exact eal (Ext.refl w) _
  have HB : Hid (Own w1 (w.heap.size) [.int .i64 c.T.id, .string c.T.name, .int .i64 c.T.len, .int .i64 c.T.speed, .int .i64 c.T.accel, .int .i64 c.T.service, .int .i64 c.T.emergency, .int .i64 c.T.delay, .int .i64 c.T.cons, .int .i64 c.T.rate, .int .i64 c.mode, .int .i64 c.brake, .int .i64 c.next, .int .i64 c.E.min, .int .i64 c.E.max, .int .i64 c.E.speed, .int .i64 c.seq, .int .i64 c.en, .slice A c.p.length ca, .slice L c.k.length cl, .int .i64 c.peer, .int .i64 c.out, .int .i64 c.inn, .int .i64 c.heard, .bool c.known, .int .i64 c.since]) := by rw [hw]; exact Own.new (w := w) (cs := #[.int .i64 c.T.id, .string c.T.name, .int .i64 c.T.len, .int .i64 c.T.speed, .int .i64 c.T.accel, .int .i64 c.T.service, .int .i64 c.T.emergency, .int .i64 c.T.delay, .int .i64 c.T.cons, .int .i64 c.T.rate, .int .i64 c.mode, .int .i64 c.brake, .int .i64 c.next, .int .i64 c.E.min, .int .i64 c.E.max, .int .i64 c.E.speed, .int .i64 c.seq, .int .i64 c.en, .slice A c.p.length ca, .slice L c.k.length cl, .int .i64 c.peer, .int .i64 c.out, .int .i64 c.inn, .int .i64 c.heard, .bool c.known, .int .i64 c.since]) (t := 35) (by simp)
  have HFC : Hid (Calls Tryd.prog 10 #[.agg #[.int .i64 c.T.id, .string c.T.name, .int .i64 c.T.len, .int .i64 c.T.speed, .int .i64 c.T.accel, .int .i64 c.T.service, .int .i64 c.T.emergency, .int .i64 c.T.delay, .int .i64 c.T.cons, .int .i64 c.T.rate, .int .i64 c.mode, .int .i64 c.brake, .int .i64 c.next, .int .i64 c.E.min, .int .i64 c.E.max, .int .i64 c.E.speed, .int .i64 c.seq, .int .i64 c.en, .slice A c.p.length ca, .slice L c.k.length cl, .int .i64 c.peer, .int .i64 c.out, .int .i64 c.inn, .int .i64 c.heard, .bool c.known, .int .i64 c.since]] w1 fun e w' => RetP w1 (CbOk c ∧ c.p.length ≤ 300 ∧ c.k.length ≤ 60) e w') := few_any c A L ca cl w1 hs hkm (hr2.keep HE0.out)
  obtain ⟨ce, hce⟩ : ∃ d, d = evC c ev := ⟨_, rfl⟩
  obtain ⟨ee, hee⟩ : ∃ d, d = evE c ev := ⟨_, rfl⟩
  obtain ⟨cr, hcr⟩ : ∃ d, d = repC c := ⟨_, rfl⟩
  obtain ⟨mr, hmr⟩ : ∃ d, d = repM c now := ⟨_, rfl⟩
  have cep : ce.p = c.p ∧ ce.k = c.k := by rw [hce]; unfold evC; split <;> exact ⟨rfl, rfl⟩
  have crp : cr.p = c.p ∧ cr.k = c.k := by rw [hcr]; exact ⟨rfl, rfl⟩
  have mrp : mr.p = [] ∧ mr.k = [] := by rw [hmr]; exact ⟨rfl, rfl⟩
  have HCE := Lib.hid cep
  have HCR := Lib.hid crp
  have HMR := Lib.hid mrp
  have HEV : Hid (∀ x, Tabs x → Rd x A 4 Sgc c.p → Rd x L 2 Lkc c.k → c.p.length ≤ 1000000 → c.k.length ≤ 1000000 → Calls Tryd.prog 20 #[.agg #[.int .i64 c.T.id, .string c.T.name, .int .i64 c.T.len, .int .i64 c.T.speed, .int .i64 c.T.accel, .int .i64 c.T.service, .int .i64 c.T.emergency, .int .i64 c.T.delay, .int .i64 c.T.cons, .int .i64 c.T.rate, .int .i64 c.mode, .int .i64 c.brake, .int .i64 c.next, .int .i64 c.E.min, .int .i64 c.E.max, .int .i64 c.E.speed, .int .i64 c.seq, .int .i64 c.en, .slice A c.p.length ca, .slice L c.k.length cl, .int .i64 c.peer, .int .i64 c.out, .int .i64 c.inn, .int .i64 c.heard, .bool c.known, .int .i64 c.since], .int .i64 ev] x fun e w' => CabRE x ce ee e w') := fun x h1 h2 h3 h4 h5 => by rw [hce, hee]; exact event_any c A L ca cl ev x h4 h5 h2 h3 h1
  have HRV : Hid (∀ x, Rd x A 4 Sgc c.p → Rd x L 2 Lkc c.k → c.p.length ≤ 1000000 → c.k.length ≤ 1000000 → Calls Tryd.prog 21 #[.agg #[.int .i64 c.T.id, .string c.T.name, .int .i64 c.T.len, .int .i64 c.T.speed, .int .i64 c.T.accel, .int .i64 c.T.service, .int .i64 c.T.emergency, .int .i64 c.T.delay, .int .i64 c.T.cons, .int .i64 c.T.rate, .int .i64 c.mode, .int .i64 c.brake, .int .i64 c.next, .int .i64 c.E.min, .int .i64 c.E.max, .int .i64 c.E.speed, .int .i64 c.seq, .int .i64 c.en, .slice A c.p.length ca, .slice L c.k.length cl, .int .i64 c.peer, .int .i64 c.out, .int .i64 c.inn, .int .i64 c.heard, .bool c.known, .int .i64 c.since], .int .i64 ev] x fun e w' => CabOE x ce ee e w') := fun x h2 h3 h4 h5 => by rw [hce, hee]; exact revent_any c A L ca cl ev x h4 h5 h2 h3
  have HRP : Hid (∀ x, Rd x A 4 Sgc c.p → Rd x L 2 Lkc c.k → c.p.length ≤ 1000000 → c.k.length ≤ 1000000 → Calls Tryd.prog 22 #[.agg #[.int .i64 c.T.id, .string c.T.name, .int .i64 c.T.len, .int .i64 c.T.speed, .int .i64 c.T.accel, .int .i64 c.T.service, .int .i64 c.T.emergency, .int .i64 c.T.delay, .int .i64 c.T.cons, .int .i64 c.T.rate, .int .i64 c.mode, .int .i64 c.brake, .int .i64 c.next, .int .i64 c.E.min, .int .i64 c.E.max, .int .i64 c.E.speed, .int .i64 c.seq, .int .i64 c.en, .slice A c.p.length ca, .slice L c.k.length cl, .int .i64 c.peer, .int .i64 c.out, .int .i64 c.inn, .int .i64 c.heard, .bool c.known, .int .i64 c.since], .int .i64 now] x fun e w' => ∃ A' ca' L' cl', e = .returned (.tuple #[.agg #[.int .i64 cr.T.id, .string cr.T.name, .int .i64 cr.T.len, .int .i64 cr.T.speed, .int .i64 cr.T.accel, .int .i64 cr.T.service, .int .i64 cr.T.emergency, .int .i64 cr.T.delay, .int .i64 cr.T.cons, .int .i64 cr.T.rate, .int .i64 cr.mode, .int .i64 cr.brake, .int .i64 cr.next, .int .i64 cr.E.min, .int .i64 cr.E.max, .int .i64 cr.E.speed, .int .i64 cr.seq, .int .i64 cr.en, .slice A' cr.p.length ca', .slice L' cr.k.length cl', .int .i64 cr.peer, .int .i64 cr.out, .int .i64 cr.inn, .int .i64 cr.heard, .bool cr.known, .int .i64 cr.since], .agg #[.int .i64 mr.kind, .int .i64 mr.frm, .int .i64 mr.to_, .int .i64 mr.seq, .int .i64 mr.time, .int .i64 mr.aseq, .int .i64 mr.aen, .slice none mr.p.length 0, .slice none mr.k.length 0, .int .i64 mr.rmin, .int .i64 mr.rspeed, .int .i64 mr.rmode, .int .i64 mr.racc, .bool mr.rwhole]]) ∧ Rd w' A' 4 Sgc c.p ∧ Rd w' L' 2 Lkc c.k ∧ Below x.heap.size x w') := fun x h2 h3 h4 h5 => by
    rw [hcr, hmr]
    refine (report_any c A L ca cl now x h4 h5 h2 h3 io is inw).mono ?_
    rintro e w' ⟨A', ca', L', cl', rfl, h6, h7, h8⟩
    exact ⟨A', ca', L', cl', rfl, h6.1, h7.1, h8⟩
  have HRR : Hid (∀ x, Rd x A 4 Sgc c.p → Rd x L 2 Lkc c.k → c.p.length ≤ 1000000 → c.k.length ≤ 1000000 → Calls Tryd.prog 23 #[.agg #[.int .i64 c.T.id, .string c.T.name, .int .i64 c.T.len, .int .i64 c.T.speed, .int .i64 c.T.accel, .int .i64 c.T.service, .int .i64 c.T.emergency, .int .i64 c.T.delay, .int .i64 c.T.cons, .int .i64 c.T.rate, .int .i64 c.mode, .int .i64 c.brake, .int .i64 c.next, .int .i64 c.E.min, .int .i64 c.E.max, .int .i64 c.E.speed, .int .i64 c.seq, .int .i64 c.en, .slice A c.p.length ca, .slice L c.k.length cl, .int .i64 c.peer, .int .i64 c.out, .int .i64 c.inn, .int .i64 c.heard, .bool c.known, .int .i64 c.since], .int .i64 now] x fun e w' => ∃ A' ca' L' cl', e = .returned (.tuple #[.agg #[.int .i64 cr.T.id, .string cr.T.name, .int .i64 cr.T.len, .int .i64 cr.T.speed, .int .i64 cr.T.accel, .int .i64 cr.T.service, .int .i64 cr.T.emergency, .int .i64 cr.T.delay, .int .i64 cr.T.cons, .int .i64 cr.T.rate, .int .i64 cr.mode, .int .i64 cr.brake, .int .i64 cr.next, .int .i64 cr.E.min, .int .i64 cr.E.max, .int .i64 cr.E.speed, .int .i64 cr.seq, .int .i64 cr.en, .slice A' cr.p.length ca', .slice L' cr.k.length cl', .int .i64 cr.peer, .int .i64 cr.out, .int .i64 cr.inn, .int .i64 cr.heard, .bool cr.known, .int .i64 cr.since], .agg #[.int .i64 mr.kind, .int .i64 mr.frm, .int .i64 mr.to_, .int .i64 mr.seq, .int .i64 mr.time, .int .i64 mr.aseq, .int .i64 mr.aen, .slice none mr.p.length 0, .slice none mr.k.length 0, .int .i64 mr.rmin, .int .i64 mr.rspeed, .int .i64 mr.rmode, .int .i64 mr.racc, .bool mr.rwhole]]) ∧ Rd w' A' 4 Sgc c.p ∧ Rd w' L' 2 Lkc c.k ∧ Below x.heap.size x w') := fun x h2 h3 h4 h5 => by
    rw [hcr, hmr]
    exact rreport_any c A L ca cl now x h4 h5 h2 h3 io is inw
  have HAL : Hid (∀ x, Tabs x → Calls Tryd.prog 11 #[] x fun e w' => e = .returned (.bool true) ∧ Below x.heap.size x w') := fun x hx => alive_any x hx
  have HN1 : Hid (∀ x, Calls Tryd.prog 24 #[.agg #[.int .i64 c.T.id, .string c.T.name, .int .i64 c.T.len, .int .i64 c.T.speed, .int .i64 c.T.accel, .int .i64 c.T.service, .int .i64 c.T.emergency, .int .i64 c.T.delay, .int .i64 c.T.cons, .int .i64 c.T.rate], .int .i64 now] x fun e w' => e = .returned (.agg #[.int .i64 c.T.id, .string c.T.name, .int .i64 c.T.len, .int .i64 c.T.speed, .int .i64 c.T.accel, .int .i64 c.T.service, .int .i64 c.T.emergency, .int .i64 c.T.delay, .int .i64 c.T.cons, .int .i64 c.T.rate, .int .i64 1, .int .i64 2, .int .i64 0, .int .i64 0, .int .i64 0, .int .i64 0, .int .i64 0, .int .i64 0, .slice none 0 0, .slice none 0 0, .int .i64 0, .int .i64 0, .int .i64 0, .int .i64 now, .bool false, .int .i64 0]) ∧ Below x.heap.size x w') := fun x => cnew_any c.T now x
  have HN2 : Hid (∀ x, Calls Tryd.prog 25 #[.agg #[.int .i64 c.T.id, .string c.T.name, .int .i64 c.T.len, .int .i64 c.T.speed, .int .i64 c.T.accel, .int .i64 c.T.service, .int .i64 c.T.emergency, .int .i64 c.T.delay, .int .i64 c.T.cons, .int .i64 c.T.rate], .int .i64 now] x fun e w' => e = .returned (.agg #[.int .i64 c.T.id, .string c.T.name, .int .i64 c.T.len, .int .i64 c.T.speed, .int .i64 c.T.accel, .int .i64 c.T.service, .int .i64 c.T.emergency, .int .i64 c.T.delay, .int .i64 c.T.cons, .int .i64 c.T.rate, .int .i64 1, .int .i64 2, .int .i64 0, .int .i64 0, .int .i64 0, .int .i64 0, .int .i64 0, .int .i64 0, .slice none 0 0, .slice none 0 0, .int .i64 0, .int .i64 0, .int .i64 0, .int .i64 now, .bool false, .int .i64 0]) ∧ Below x.heap.size x w') := fun x => rcnew_any c.T now x
  have HS0 : Hid (∀ x, Calls Tryd.prog 14 #[.agg #[.int .i64 c.T.id, .string c.T.name, .int .i64 c.T.len, .int .i64 c.T.speed, .int .i64 c.T.accel, .int .i64 c.T.service, .int .i64 c.T.emergency, .int .i64 c.T.delay, .int .i64 c.T.cons, .int .i64 c.T.rate, .int .i64 1, .int .i64 2, .int .i64 0, .int .i64 0, .int .i64 0, .int .i64 0, .int .i64 0, .int .i64 0, .slice none 0 0, .slice none 0 0, .int .i64 0, .int .i64 0, .int .i64 0, .int .i64 now, .bool false, .int .i64 0], .agg #[.int .i64 c.T.id, .string c.T.name, .int .i64 c.T.len, .int .i64 c.T.speed, .int .i64 c.T.accel, .int .i64 c.T.service, .int .i64 c.T.emergency, .int .i64 c.T.delay, .int .i64 c.T.cons, .int .i64 c.T.rate, .int .i64 1, .int .i64 2, .int .i64 0, .int .i64 0, .int .i64 0, .int .i64 0, .int .i64 0, .int .i64 0, .slice none 0 0, .slice none 0 0, .int .i64 0, .int .i64 0, .int .i64 0, .int .i64 now, .bool false, .int .i64 0]] x fun e w' => e = .returned (.bool true) ∧ Below x.heap.size x w') := fun x =>
    samec_any (newC c.T now) none none none none 0 0 0 0 x Rd.nil Rd.nil Rd.nil Rd.nil (by show (0 : Nat) ≤ _; omega) (by show (0 : Nat) ≤ _; omega)
  have HSM : Hid (∀ x, Calls Tryd.prog 26 #[.agg #[.int .i64 mr.kind, .int .i64 mr.frm, .int .i64 mr.to_, .int .i64 mr.seq, .int .i64 mr.time, .int .i64 mr.aseq, .int .i64 mr.aen, .slice none mr.p.length 0, .slice none mr.k.length 0, .int .i64 mr.rmin, .int .i64 mr.rspeed, .int .i64 mr.rmode, .int .i64 mr.racc, .bool mr.rwhole], .agg #[.int .i64 mr.kind, .int .i64 mr.frm, .int .i64 mr.to_, .int .i64 mr.seq, .int .i64 mr.time, .int .i64 mr.aseq, .int .i64 mr.aen, .slice none mr.p.length 0, .slice none mr.k.length 0, .int .i64 mr.rmin, .int .i64 mr.rspeed, .int .i64 mr.rmode, .int .i64 mr.racc, .bool mr.rwhole]] x fun e w' => e = .returned (.bool true) ∧ Below x.heap.size x w') := fun x =>
    samem_any mr none none none none 0 0 0 0 x (by rw [HMR.out.1]; exact Rd.nil) (by rw [HMR.out.2]; exact Rd.nil) (by rw [HMR.out.1]; exact Rd.nil) (by rw [HMR.out.2]; exact Rd.nil) (by rw [HMR.out.1]; show (0 : Nat) ≤ _; omega) (by rw [HMR.out.2]; show (0 : Nat) ≤ _; omega)
  clear hr hr2 ht hs hkm io is inw hce hee hcr hmr cep crp mrp
  go_enter Tryd.func6, Tryd.ntmps6
  go_upto_region 1 with (fail)
  rw [← hw]
  clear hw
  go_wp2_with (first | (refine wp_ldN 35 [.int .i64 c.T.id, .string c.T.name, .int .i64 c.T.len, .int .i64 c.T.speed, .int .i64 c.T.accel, .int .i64 c.T.service, .int .i64 c.T.emergency, .int .i64 c.T.delay, .int .i64 c.T.cons, .int .i64 c.T.rate, .int .i64 c.mode, .int .i64 c.brake, .int .i64 c.next, .int .i64 c.E.min, .int .i64 c.E.max, .int .i64 c.E.speed, .int .i64 c.seq, .int .i64 c.en, .slice A c.p.length ca, .slice L c.k.length cl, .int .i64 c.peer, .int .i64 c.out, .int .i64 c.inn, .int .i64 c.heard, .bool c.known, .int .i64 c.since] rfl rfl rfl (HB.out).cells Tryd.underlying35 szCab rfl ?_))
  refine HFC.out.mono ?_
  rintro e w2 ⟨b, rfl, hP, hb⟩
  have HQ := Lib.hid hP
  have HOBv1 := Lib.hid (HB.out.keep hb)
  have HXv1 := Lib.hid (etr HE0.out hb)
  clear hP hb
  cases b
  · go_wp2_with fail
    refine (HAL.out _ (HT.out.keep HXv1.out)).mono ?_
    rintro e w3 ⟨rfl, hb⟩
    go_wp2
    go_ret
    exact ⟨rfl, etr HXv1.out hb⟩
  · have hpl : c.p.length ≤ 1000000 := by have := (HQ.out rfl).2.1; omega
    have hkl : c.k.length ≤ 1000000 := by have := (HQ.out rfl).2.2; omega
    have HPL := Lib.hid hpl
    have HKL := Lib.hid hkl
    clear hpl hkl
    go_wp2_with (first | (refine wp_ldN 35 [.int .i64 c.T.id, .string c.T.name, .int .i64 c.T.len, .int .i64 c.T.speed, .int .i64 c.T.accel, .int .i64 c.T.service, .int .i64 c.T.emergency, .int .i64 c.T.delay, .int .i64 c.T.cons, .int .i64 c.T.rate, .int .i64 c.mode, .int .i64 c.brake, .int .i64 c.next, .int .i64 c.E.min, .int .i64 c.E.max, .int .i64 c.E.speed, .int .i64 c.seq, .int .i64 c.en, .slice A c.p.length ca, .slice L c.k.length cl, .int .i64 c.peer, .int .i64 c.out, .int .i64 c.inn, .int .i64 c.heard, .bool c.known, .int .i64 c.since] rfl rfl rfl (HOBv1.out).cells Tryd.underlying35 szCab rfl ?_))
    refine (HEV.out _ (HT.out.keep HXv1.out) (HP.out.keep HXv1.out) (HK.out.keep HXv1.out) HPL.out HKL.out).mono ?_
    rintro e w3 ⟨A1, ca1, L1, cl1, rfl, h1, h2, hb⟩
    have HOBv2 := Lib.hid (HOBv1.out.keep hb)
    have HXv2 := Lib.hid (etr HXv1.out hb)
    have HRA1 := Lib.hid h1.1
    have HRL1 := Lib.hid h2.1
    clear h1 h2 hb
    go_upto_region 4 with (first | (refine wp_stN 35 [.int .i64 ce.T.id, .string ce.T.name, .int .i64 ce.T.len, .int .i64 ce.T.speed, .int .i64 ce.T.accel, .int .i64 ce.T.service, .int .i64 ce.T.emergency, .int .i64 ce.T.delay, .int .i64 ce.T.cons, .int .i64 ce.T.rate, .int .i64 ce.mode, .int .i64 ce.brake, .int .i64 ce.next, .int .i64 ce.E.min, .int .i64 ce.E.max, .int .i64 ce.E.speed, .int .i64 ce.seq, .int .i64 ce.en, .slice A1 ce.p.length ca1, .slice L1 ce.k.length cl1, .int .i64 ce.peer, .int .i64 ce.out, .int .i64 ce.inn, .int .i64 ce.heard, .bool ce.known, .int .i64 ce.since] [.int .i64 ce.T.id, .string ce.T.name, .int .i64 ce.T.len, .int .i64 ce.T.speed, .int .i64 ce.T.accel, .int .i64 ce.T.service, .int .i64 ce.T.emergency, .int .i64 ce.T.delay, .int .i64 ce.T.cons, .int .i64 ce.T.rate, .int .i64 ce.mode, .int .i64 ce.brake, .int .i64 ce.next, .int .i64 ce.E.min, .int .i64 ce.E.max, .int .i64 ce.E.speed, .int .i64 ce.seq, .int .i64 ce.en, .slice A1 ce.p.length ca1, .slice L1 ce.k.length cl1, .int .i64 ce.peer, .int .i64 ce.out, .int .i64 ce.inn, .int .i64 ce.heard, .bool ce.known, .int .i64 ce.since] rfl rfl rfl (Own.new (w := w3) (cs := #[.int .i64 0, .string ⟨#[]⟩, .int .i64 0, .int .i64 0, .int .i64 0, .int .i64 0, .int .i64 0, .int .i64 0, .int .i64 0, .int .i64 0, .int .i64 0, .int .i64 0, .int .i64 0, .int .i64 0, .int .i64 0, .int .i64 0, .int .i64 0, .int .i64 0, .slice none 0 0, .slice none 0 0, .int .i64 0, .int .i64 0, .int .i64 0, .int .i64 0, .bool false, .int .i64 0]) (t := 35) rfl) rfl szCab rfl (by show (0 + 26 : Nat) ≤ 26; decide) rfl ?_; intro w4 H4))
    have g : Ext w3 w4 := eonly (eal (Ext.refl _) _) H4.out.2 (Nat.le_refl _)
    have HOBv3 := Lib.hid (HOBv2.out.keep g)
    have HXv3 := Lib.hid (etr HXv2.out g)
    have HOE1 := Lib.hid H4.out.1
    replace HRA1 := Lib.hid (HRA1.out.keep g)
    replace HRL1 := Lib.hid (HRL1.out.keep g)
    clear g H4
    go_wp2_with (first | (refine wp_ldN 35 [.int .i64 c.T.id, .string c.T.name, .int .i64 c.T.len, .int .i64 c.T.speed, .int .i64 c.T.accel, .int .i64 c.T.service, .int .i64 c.T.emergency, .int .i64 c.T.delay, .int .i64 c.T.cons, .int .i64 c.T.rate, .int .i64 c.mode, .int .i64 c.brake, .int .i64 c.next, .int .i64 c.E.min, .int .i64 c.E.max, .int .i64 c.E.speed, .int .i64 c.seq, .int .i64 c.en, .slice A c.p.length ca, .slice L c.k.length cl, .int .i64 c.peer, .int .i64 c.out, .int .i64 c.inn, .int .i64 c.heard, .bool c.known, .int .i64 c.since] rfl rfl rfl (HOBv3.out).cells Tryd.underlying35 szCab rfl ?_))
    refine (HRV.out _ (HP.out.keep HXv3.out) (HK.out.keep HXv3.out) HPL.out HKL.out).mono ?_
    rintro e w5 ⟨A2, ca2, L2, cl2, rfl, h1, h2, hb⟩
    have HOBv4 := Lib.hid (HOBv3.out.keep hb)
    have HOE1v4 := Lib.hid (HOE1.out.keep hb)
    have HXv4 := Lib.hid (etr HXv3.out hb)
    replace HRA1 := Lib.hid (HRA1.out.keep hb)
    replace HRL1 := Lib.hid (HRL1.out.keep hb)
    have HRA2 := Lib.hid h1
    have HRL2 := Lib.hid h2
    clear h1 h2 hb
    go_upto_region 5 with (first | (refine wp_stN 35 [.int .i64 ce.T.id, .string ce.T.name, .int .i64 ce.T.len, .int .i64 ce.T.speed, .int .i64 ce.T.accel, .int .i64 ce.T.service, .int .i64 ce.T.emergency, .int .i64 ce.T.delay, .int .i64 ce.T.cons, .int .i64 ce.T.rate, .int .i64 ce.mode, .int .i64 ce.brake, .int .i64 ce.next, .int .i64 ce.E.min, .int .i64 ce.E.max, .int .i64 ce.E.speed, .int .i64 ce.seq, .int .i64 ce.en, .slice A2 ce.p.length ca2, .slice L2 ce.k.length cl2, .int .i64 ce.peer, .int .i64 ce.out, .int .i64 ce.inn, .int .i64 ce.heard, .bool ce.known, .int .i64 ce.since] [.int .i64 ce.T.id, .string ce.T.name, .int .i64 ce.T.len, .int .i64 ce.T.speed, .int .i64 ce.T.accel, .int .i64 ce.T.service, .int .i64 ce.T.emergency, .int .i64 ce.T.delay, .int .i64 ce.T.cons, .int .i64 ce.T.rate, .int .i64 ce.mode, .int .i64 ce.brake, .int .i64 ce.next, .int .i64 ce.E.min, .int .i64 ce.E.max, .int .i64 ce.E.speed, .int .i64 ce.seq, .int .i64 ce.en, .slice A2 ce.p.length ca2, .slice L2 ce.k.length cl2, .int .i64 ce.peer, .int .i64 ce.out, .int .i64 ce.inn, .int .i64 ce.heard, .bool ce.known, .int .i64 ce.since] rfl rfl rfl (Own.new (w := w5) (cs := #[.int .i64 0, .string ⟨#[]⟩, .int .i64 0, .int .i64 0, .int .i64 0, .int .i64 0, .int .i64 0, .int .i64 0, .int .i64 0, .int .i64 0, .int .i64 0, .int .i64 0, .int .i64 0, .int .i64 0, .int .i64 0, .int .i64 0, .int .i64 0, .int .i64 0, .slice none 0 0, .slice none 0 0, .int .i64 0, .int .i64 0, .int .i64 0, .int .i64 0, .bool false, .int .i64 0]) (t := 35) rfl) rfl szCab rfl (by show (0 + 26 : Nat) ≤ 26; decide) rfl ?_; intro w6 H6))
    have g : Ext w5 w6 := eonly (eal (Ext.refl _) _) H6.out.2 (Nat.le_refl _)
    have HOBv5 := Lib.hid (HOBv4.out.keep g)
    have HOE1v5 := Lib.hid (HOE1v4.out.keep g)
    have HXv5 := Lib.hid (etr HXv4.out g)
    have HOE2 := Lib.hid H6.out.1
    replace HRA1 := Lib.hid (HRA1.out.keep g)
    replace HRL1 := Lib.hid (HRL1.out.keep g)
    replace HRA2 := Lib.hid (HRA2.out.keep g)
    replace HRL2 := Lib.hid (HRL2.out.keep g)
    clear g H6
    go_wp2_with (first | (refine wp_ldN 35 [.int .i64 c.T.id, .string c.T.name, .int .i64 c.T.len, .int .i64 c.T.speed, .int .i64 c.T.accel, .int .i64 c.T.service, .int .i64 c.T.emergency, .int .i64 c.T.delay, .int .i64 c.T.cons, .int .i64 c.T.rate, .int .i64 c.mode, .int .i64 c.brake, .int .i64 c.next, .int .i64 c.E.min, .int .i64 c.E.max, .int .i64 c.E.speed, .int .i64 c.seq, .int .i64 c.en, .slice A c.p.length ca, .slice L c.k.length cl, .int .i64 c.peer, .int .i64 c.out, .int .i64 c.inn, .int .i64 c.heard, .bool c.known, .int .i64 c.since] rfl rfl rfl (HOBv5.out).cells Tryd.underlying35 szCab rfl ?_))
    refine (HRP.out _ (HP.out.keep HXv5.out) (HK.out.keep HXv5.out) HPL.out HKL.out).mono ?_
    rintro e w7 ⟨A3, ca3, L3, cl3, rfl, h1, h2, hb⟩
    have HOBv6 := Lib.hid (HOBv5.out.keep hb)
    have HOE1v6 := Lib.hid (HOE1v5.out.keep hb)
    have HOE2v6 := Lib.hid (HOE2.out.keep hb)
    have HXv6 := Lib.hid (etr HXv5.out hb)
    replace HRA1 := Lib.hid (HRA1.out.keep hb)
    replace HRL1 := Lib.hid (HRL1.out.keep hb)
    replace HRA2 := Lib.hid (HRA2.out.keep hb)
    replace HRL2 := Lib.hid (HRL2.out.keep hb)
    have HRA3 := Lib.hid h1
    have HRL3 := Lib.hid h2
    clear h1 h2 hb
    go_upto_region 6 with (first | (refine wp_stN 35 [.int .i64 cr.T.id, .string cr.T.name, .int .i64 cr.T.len, .int .i64 cr.T.speed, .int .i64 cr.T.accel, .int .i64 cr.T.service, .int .i64 cr.T.emergency, .int .i64 cr.T.delay, .int .i64 cr.T.cons, .int .i64 cr.T.rate, .int .i64 cr.mode, .int .i64 cr.brake, .int .i64 cr.next, .int .i64 cr.E.min, .int .i64 cr.E.max, .int .i64 cr.E.speed, .int .i64 cr.seq, .int .i64 cr.en, .slice A3 cr.p.length ca3, .slice L3 cr.k.length cl3, .int .i64 cr.peer, .int .i64 cr.out, .int .i64 cr.inn, .int .i64 cr.heard, .bool cr.known, .int .i64 cr.since] [.int .i64 cr.T.id, .string cr.T.name, .int .i64 cr.T.len, .int .i64 cr.T.speed, .int .i64 cr.T.accel, .int .i64 cr.T.service, .int .i64 cr.T.emergency, .int .i64 cr.T.delay, .int .i64 cr.T.cons, .int .i64 cr.T.rate, .int .i64 cr.mode, .int .i64 cr.brake, .int .i64 cr.next, .int .i64 cr.E.min, .int .i64 cr.E.max, .int .i64 cr.E.speed, .int .i64 cr.seq, .int .i64 cr.en, .slice A3 cr.p.length ca3, .slice L3 cr.k.length cl3, .int .i64 cr.peer, .int .i64 cr.out, .int .i64 cr.inn, .int .i64 cr.heard, .bool cr.known, .int .i64 cr.since] rfl rfl rfl ((Own.new (w := w7) (cs := #[.int .i64 0, .string ⟨#[]⟩, .int .i64 0, .int .i64 0, .int .i64 0, .int .i64 0, .int .i64 0, .int .i64 0, .int .i64 0, .int .i64 0, .int .i64 0, .int .i64 0, .int .i64 0, .int .i64 0, .int .i64 0, .int .i64 0, .int .i64 0, .int .i64 0, .slice none 0 0, .slice none 0 0, .int .i64 0, .int .i64 0, .int .i64 0, .int .i64 0, .bool false, .int .i64 0]) (t := 35) rfl).alloc (.cells #[.int .i64 0, .int .i64 0, .int .i64 0, .int .i64 0, .int .i64 0, .int .i64 0, .int .i64 0, .slice none 0 0, .slice none 0 0, .int .i64 0, .int .i64 0, .int .i64 0, .int .i64 0, .bool false] 39)) rfl szCab rfl (by show (0 + 26 : Nat) ≤ 26; decide) rfl ?_; intro w8 Hw8) | (refine wp_stN 39 [.int .i64 mr.kind, .int .i64 mr.frm, .int .i64 mr.to_, .int .i64 mr.seq, .int .i64 mr.time, .int .i64 mr.aseq, .int .i64 mr.aen, .slice none mr.p.length 0, .slice none mr.k.length 0, .int .i64 mr.rmin, .int .i64 mr.rspeed, .int .i64 mr.rmode, .int .i64 mr.racc, .bool mr.rwhole] [.int .i64 mr.kind, .int .i64 mr.frm, .int .i64 mr.to_, .int .i64 mr.seq, .int .i64 mr.time, .int .i64 mr.aseq, .int .i64 mr.aen, .slice none mr.p.length 0, .slice none mr.k.length 0, .int .i64 mr.rmin, .int .i64 mr.rspeed, .int .i64 mr.rmode, .int .i64 mr.racc, .bool mr.rwhole] rfl rfl rfl ((Own.new (w := (w7.alloc (.cells #[.int .i64 0, .string ⟨#[]⟩, .int .i64 0, .int .i64 0, .int .i64 0, .int .i64 0, .int .i64 0, .int .i64 0, .int .i64 0, .int .i64 0, .int .i64 0, .int .i64 0, .int .i64 0, .int .i64 0, .int .i64 0, .int .i64 0, .int .i64 0, .int .i64 0, .slice none 0 0, .slice none 0 0, .int .i64 0, .int .i64 0, .int .i64 0, .int .i64 0, .bool false, .int .i64 0] 35))) (cs := #[.int .i64 0, .int .i64 0, .int .i64 0, .int .i64 0, .int .i64 0, .int .i64 0, .int .i64 0, .slice none 0 0, .slice none 0 0, .int .i64 0, .int .i64 0, .int .i64 0, .int .i64 0, .bool false]) (t := 39) (b := w7.heap.size + 1) (by simp)).only Hw8.out.2 (by omega)) rfl szMsg rfl (by show (0 + 14 : Nat) ≤ 14; decide) rfl ?_; intro w9 Hw9))
    have g : Ext w7 w9 := eonly (eonly (eal (eal (Ext.refl _) _) _) Hw8.out.2 (Nat.le_refl _)) Hw9.out.2 (by omega)
    have HOBv7 := Lib.hid (HOBv6.out.keep g)
    have HOE1v7 := Lib.hid (HOE1v6.out.keep g)
    have HOE2v7 := Lib.hid (HOE2v6.out.keep g)
    have HXv7 := Lib.hid (etr HXv6.out g)
    replace HRA1 := Lib.hid (HRA1.out.keep g)
    replace HRL1 := Lib.hid (HRL1.out.keep g)
    replace HRA2 := Lib.hid (HRA2.out.keep g)
    replace HRL2 := Lib.hid (HRL2.out.keep g)
    replace HRA3 := Lib.hid (HRA3.out.keep g)
    replace HRL3 := Lib.hid (HRL3.out.keep g)
    have HOR1 := Lib.hid (Hw8.out.1.only Hw9.out.2 (by omega))
    have HOM1 := Lib.hid Hw9.out.1
    clear g Hw8 Hw9
    go_wp2_with (first | (refine wp_ldN 35 [.int .i64 c.T.id, .string c.T.name, .int .i64 c.T.len, .int .i64 c.T.speed, .int .i64 c.T.accel, .int .i64 c.T.service, .int .i64 c.T.emergency, .int .i64 c.T.delay, .int .i64 c.T.cons, .int .i64 c.T.rate, .int .i64 c.mode, .int .i64 c.brake, .int .i64 c.next, .int .i64 c.E.min, .int .i64 c.E.max, .int .i64 c.E.speed, .int .i64 c.seq, .int .i64 c.en, .slice A c.p.length ca, .slice L c.k.length cl, .int .i64 c.peer, .int .i64 c.out, .int .i64 c.inn, .int .i64 c.heard, .bool c.known, .int .i64 c.since] rfl rfl rfl (HOBv7.out).cells Tryd.underlying35 szCab rfl ?_))
    refine (HRR.out _ (HP.out.keep HXv7.out) (HK.out.keep HXv7.out) HPL.out HKL.out).mono ?_
    rintro e w10 ⟨A4, ca4, L4, cl4, rfl, h1, h2, hb⟩
    have HOBv8 := Lib.hid (HOBv7.out.keep hb)
    have HOE1v8 := Lib.hid (HOE1v7.out.keep hb)
    have HOE2v8 := Lib.hid (HOE2v7.out.keep hb)
    have HOR1v8 := Lib.hid (HOR1.out.keep hb)
    have HOM1v8 := Lib.hid (HOM1.out.keep hb)
    have HXv8 := Lib.hid (etr HXv7.out hb)
    replace HRA1 := Lib.hid (HRA1.out.keep hb)
    replace HRL1 := Lib.hid (HRL1.out.keep hb)
    replace HRA2 := Lib.hid (HRA2.out.keep hb)
    replace HRL2 := Lib.hid (HRL2.out.keep hb)
    replace HRA3 := Lib.hid (HRA3.out.keep hb)
    replace HRL3 := Lib.hid (HRL3.out.keep hb)
    have HRA4 := Lib.hid h1
    have HRL4 := Lib.hid h2
    clear h1 h2 hb
    go_upto_region 7 with (first | (refine wp_stN 35 [.int .i64 cr.T.id, .string cr.T.name, .int .i64 cr.T.len, .int .i64 cr.T.speed, .int .i64 cr.T.accel, .int .i64 cr.T.service, .int .i64 cr.T.emergency, .int .i64 cr.T.delay, .int .i64 cr.T.cons, .int .i64 cr.T.rate, .int .i64 cr.mode, .int .i64 cr.brake, .int .i64 cr.next, .int .i64 cr.E.min, .int .i64 cr.E.max, .int .i64 cr.E.speed, .int .i64 cr.seq, .int .i64 cr.en, .slice A4 cr.p.length ca4, .slice L4 cr.k.length cl4, .int .i64 cr.peer, .int .i64 cr.out, .int .i64 cr.inn, .int .i64 cr.heard, .bool cr.known, .int .i64 cr.since] [.int .i64 cr.T.id, .string cr.T.name, .int .i64 cr.T.len, .int .i64 cr.T.speed, .int .i64 cr.T.accel, .int .i64 cr.T.service, .int .i64 cr.T.emergency, .int .i64 cr.T.delay, .int .i64 cr.T.cons, .int .i64 cr.T.rate, .int .i64 cr.mode, .int .i64 cr.brake, .int .i64 cr.next, .int .i64 cr.E.min, .int .i64 cr.E.max, .int .i64 cr.E.speed, .int .i64 cr.seq, .int .i64 cr.en, .slice A4 cr.p.length ca4, .slice L4 cr.k.length cl4, .int .i64 cr.peer, .int .i64 cr.out, .int .i64 cr.inn, .int .i64 cr.heard, .bool cr.known, .int .i64 cr.since] rfl rfl rfl ((Own.new (w := w10) (cs := #[.int .i64 0, .string ⟨#[]⟩, .int .i64 0, .int .i64 0, .int .i64 0, .int .i64 0, .int .i64 0, .int .i64 0, .int .i64 0, .int .i64 0, .int .i64 0, .int .i64 0, .int .i64 0, .int .i64 0, .int .i64 0, .int .i64 0, .int .i64 0, .int .i64 0, .slice none 0 0, .slice none 0 0, .int .i64 0, .int .i64 0, .int .i64 0, .int .i64 0, .bool false, .int .i64 0]) (t := 35) rfl).alloc (.cells #[.int .i64 0, .int .i64 0, .int .i64 0, .int .i64 0, .int .i64 0, .int .i64 0, .int .i64 0, .slice none 0 0, .slice none 0 0, .int .i64 0, .int .i64 0, .int .i64 0, .int .i64 0, .bool false] 39)) rfl szCab rfl (by show (0 + 26 : Nat) ≤ 26; decide) rfl ?_; intro w11 Hw11) | (refine wp_stN 39 [.int .i64 mr.kind, .int .i64 mr.frm, .int .i64 mr.to_, .int .i64 mr.seq, .int .i64 mr.time, .int .i64 mr.aseq, .int .i64 mr.aen, .slice none mr.p.length 0, .slice none mr.k.length 0, .int .i64 mr.rmin, .int .i64 mr.rspeed, .int .i64 mr.rmode, .int .i64 mr.racc, .bool mr.rwhole] [.int .i64 mr.kind, .int .i64 mr.frm, .int .i64 mr.to_, .int .i64 mr.seq, .int .i64 mr.time, .int .i64 mr.aseq, .int .i64 mr.aen, .slice none mr.p.length 0, .slice none mr.k.length 0, .int .i64 mr.rmin, .int .i64 mr.rspeed, .int .i64 mr.rmode, .int .i64 mr.racc, .bool mr.rwhole] rfl rfl rfl ((Own.new (w := (w10.alloc (.cells #[.int .i64 0, .string ⟨#[]⟩, .int .i64 0, .int .i64 0, .int .i64 0, .int .i64 0, .int .i64 0, .int .i64 0, .int .i64 0, .int .i64 0, .int .i64 0, .int .i64 0, .int .i64 0, .int .i64 0, .int .i64 0, .int .i64 0, .int .i64 0, .int .i64 0, .slice none 0 0, .slice none 0 0, .int .i64 0, .int .i64 0, .int .i64 0, .int .i64 0, .bool false, .int .i64 0] 35))) (cs := #[.int .i64 0, .int .i64 0, .int .i64 0, .int .i64 0, .int .i64 0, .int .i64 0, .int .i64 0, .slice none 0 0, .slice none 0 0, .int .i64 0, .int .i64 0, .int .i64 0, .int .i64 0, .bool false]) (t := 39) (b := w10.heap.size + 1) (by simp)).only Hw11.out.2 (by omega)) rfl szMsg rfl (by show (0 + 14 : Nat) ≤ 14; decide) rfl ?_; intro w12 Hw12))
    have g : Ext w10 w12 := eonly (eonly (eal (eal (Ext.refl _) _) _) Hw11.out.2 (Nat.le_refl _)) Hw12.out.2 (by omega)
    have HOBv9 := Lib.hid (HOBv8.out.keep g)
    have HOE1v9 := Lib.hid (HOE1v8.out.keep g)
    have HOE2v9 := Lib.hid (HOE2v8.out.keep g)
    have HOR1v9 := Lib.hid (HOR1v8.out.keep g)
    have HOM1v9 := Lib.hid (HOM1v8.out.keep g)
    have HXv9 := Lib.hid (etr HXv8.out g)
    replace HRA1 := Lib.hid (HRA1.out.keep g)
    replace HRL1 := Lib.hid (HRL1.out.keep g)
    replace HRA2 := Lib.hid (HRA2.out.keep g)
    replace HRL2 := Lib.hid (HRL2.out.keep g)
    replace HRA3 := Lib.hid (HRA3.out.keep g)
    replace HRL3 := Lib.hid (HRL3.out.keep g)
    replace HRA4 := Lib.hid (HRA4.out.keep g)
    replace HRL4 := Lib.hid (HRL4.out.keep g)
    have HOR2 := Lib.hid (Hw11.out.1.only Hw12.out.2 (by omega))
    have HOM2 := Lib.hid Hw12.out.1
    clear g Hw11 Hw12
    have HS1 : Hid (∀ x, Ext w12 x → Calls Tryd.prog 14 #[.agg #[.int .i64 ce.T.id, .string ce.T.name, .int .i64 ce.T.len, .int .i64 ce.T.speed, .int .i64 ce.T.accel, .int .i64 ce.T.service, .int .i64 ce.T.emergency, .int .i64 ce.T.delay, .int .i64 ce.T.cons, .int .i64 ce.T.rate, .int .i64 ce.mode, .int .i64 ce.brake, .int .i64 ce.next, .int .i64 ce.E.min, .int .i64 ce.E.max, .int .i64 ce.E.speed, .int .i64 ce.seq, .int .i64 ce.en, .slice A1 ce.p.length ca1, .slice L1 ce.k.length cl1, .int .i64 ce.peer, .int .i64 ce.out, .int .i64 ce.inn, .int .i64 ce.heard, .bool ce.known, .int .i64 ce.since], .agg #[.int .i64 ce.T.id, .string ce.T.name, .int .i64 ce.T.len, .int .i64 ce.T.speed, .int .i64 ce.T.accel, .int .i64 ce.T.service, .int .i64 ce.T.emergency, .int .i64 ce.T.delay, .int .i64 ce.T.cons, .int .i64 ce.T.rate, .int .i64 ce.mode, .int .i64 ce.brake, .int .i64 ce.next, .int .i64 ce.E.min, .int .i64 ce.E.max, .int .i64 ce.E.speed, .int .i64 ce.seq, .int .i64 ce.en, .slice A2 ce.p.length ca2, .slice L2 ce.k.length cl2, .int .i64 ce.peer, .int .i64 ce.out, .int .i64 ce.inn, .int .i64 ce.heard, .bool ce.known, .int .i64 ce.since]] x fun e w' => e = .returned (.bool true) ∧ Below x.heap.size x w') := fun x hx =>
      samec_any ce A1 L1 A2 L2 ca1 cl1 ca2 cl2 x (HRA1.out.keep hx) (HRL1.out.keep hx) (HRA2.out.keep hx) (HRL2.out.keep hx) (by rw [HCE.out.1]; exact HPL.out) (by rw [HCE.out.2]; exact HKL.out)
    have HS2 : Hid (∀ x, Ext w12 x → Calls Tryd.prog 14 #[.agg #[.int .i64 cr.T.id, .string cr.T.name, .int .i64 cr.T.len, .int .i64 cr.T.speed, .int .i64 cr.T.accel, .int .i64 cr.T.service, .int .i64 cr.T.emergency, .int .i64 cr.T.delay, .int .i64 cr.T.cons, .int .i64 cr.T.rate, .int .i64 cr.mode, .int .i64 cr.brake, .int .i64 cr.next, .int .i64 cr.E.min, .int .i64 cr.E.max, .int .i64 cr.E.speed, .int .i64 cr.seq, .int .i64 cr.en, .slice A3 cr.p.length ca3, .slice L3 cr.k.length cl3, .int .i64 cr.peer, .int .i64 cr.out, .int .i64 cr.inn, .int .i64 cr.heard, .bool cr.known, .int .i64 cr.since], .agg #[.int .i64 cr.T.id, .string cr.T.name, .int .i64 cr.T.len, .int .i64 cr.T.speed, .int .i64 cr.T.accel, .int .i64 cr.T.service, .int .i64 cr.T.emergency, .int .i64 cr.T.delay, .int .i64 cr.T.cons, .int .i64 cr.T.rate, .int .i64 cr.mode, .int .i64 cr.brake, .int .i64 cr.next, .int .i64 cr.E.min, .int .i64 cr.E.max, .int .i64 cr.E.speed, .int .i64 cr.seq, .int .i64 cr.en, .slice A4 cr.p.length ca4, .slice L4 cr.k.length cl4, .int .i64 cr.peer, .int .i64 cr.out, .int .i64 cr.inn, .int .i64 cr.heard, .bool cr.known, .int .i64 cr.since]] x fun e w' => e = .returned (.bool true) ∧ Below x.heap.size x w') := fun x hx =>
      samec_any cr A3 L3 A4 L4 ca3 cl3 ca4 cl4 x (by rw [HCR.out.1]; exact HRA3.out.keep hx) (by rw [HCR.out.2]; exact HRL3.out.keep hx) (by rw [HCR.out.1]; exact HRA4.out.keep hx) (by rw [HCR.out.2]; exact HRL4.out.keep hx) (by rw [HCR.out.1]; exact HPL.out) (by rw [HCR.out.2]; exact HKL.out)
    have HTx := Lib.hid (HT.out.keep HXv9.out)
    dsimp only [Act.put]
    refine wp_region_after (by kernel_rfl) (by kernel_rfl) ?_
    go_big_quiet_step (fail)
    refine wq_ldN 23 [.int .i64 c.T.id, .string c.T.name, .int .i64 c.T.len, .int .i64 c.T.speed, .int .i64 c.T.accel, .int .i64 c.T.service, .int .i64 c.T.emergency, .int .i64 c.T.delay, .int .i64 c.T.cons, .int .i64 c.T.rate] rfl rfl rfl (HOBv9.out).cells Tryd.underlying23 szTr rfl ?_; go_simp
    go_big_quiet_step (fail)
    go_big_quiet_step ((go_at_call 24; exact after_call _ (HN1.out _)))
    go_big_quiet_step (fail)
    refine wq_ldN 23 [.int .i64 c.T.id, .string c.T.name, .int .i64 c.T.len, .int .i64 c.T.speed, .int .i64 c.T.accel, .int .i64 c.T.service, .int .i64 c.T.emergency, .int .i64 c.T.delay, .int .i64 c.T.cons, .int .i64 c.T.rate] rfl rfl rfl (HOBv9.out).cells Tryd.underlying23 szTr rfl ?_; go_simp
    go_big_quiet_step (fail)
    go_big_quiet_step ((go_at_call 25; exact after_call _ (HN2.out _)))
    go_big_quiet_step ((go_at_call 14; exact after_call _ (HS0.out _)))
    go_big_quiet_step (fail)
    refine wq_ldN 35 [.int .i64 ce.T.id, .string ce.T.name, .int .i64 ce.T.len, .int .i64 ce.T.speed, .int .i64 ce.T.accel, .int .i64 ce.T.service, .int .i64 ce.T.emergency, .int .i64 ce.T.delay, .int .i64 ce.T.cons, .int .i64 ce.T.rate, .int .i64 ce.mode, .int .i64 ce.brake, .int .i64 ce.next, .int .i64 ce.E.min, .int .i64 ce.E.max, .int .i64 ce.E.speed, .int .i64 ce.seq, .int .i64 ce.en, .slice A1 ce.p.length ca1, .slice L1 ce.k.length cl1, .int .i64 ce.peer, .int .i64 ce.out, .int .i64 ce.inn, .int .i64 ce.heard, .bool ce.known, .int .i64 ce.since] rfl rfl rfl (HOE1v9.out).cells Tryd.underlying35 szCab rfl ?_; go_simp
    refine wq_ldN 35 [.int .i64 ce.T.id, .string ce.T.name, .int .i64 ce.T.len, .int .i64 ce.T.speed, .int .i64 ce.T.accel, .int .i64 ce.T.service, .int .i64 ce.T.emergency, .int .i64 ce.T.delay, .int .i64 ce.T.cons, .int .i64 ce.T.rate, .int .i64 ce.mode, .int .i64 ce.brake, .int .i64 ce.next, .int .i64 ce.E.min, .int .i64 ce.E.max, .int .i64 ce.E.speed, .int .i64 ce.seq, .int .i64 ce.en, .slice A2 ce.p.length ca2, .slice L2 ce.k.length cl2, .int .i64 ce.peer, .int .i64 ce.out, .int .i64 ce.inn, .int .i64 ce.heard, .bool ce.known, .int .i64 ce.since] rfl rfl rfl (HOE2v9.out).cells Tryd.underlying35 szCab rfl ?_; go_simp
    go_big_quiet_step ((go_at_call 14; exact after_call _ (HS1.out _ (After.is _))))
    go_big_quiet_step (fail)
    go_big_quiet_step (fail)
    go_big_quiet_step (fail)
    go_big_quiet_step (fail)
    go_big_quiet_step (fail)
    go_big_quiet_step (fail)
    go_big_quiet_step (fail)
    refine wq_ldN 35 [.int .i64 cr.T.id, .string cr.T.name, .int .i64 cr.T.len, .int .i64 cr.T.speed, .int .i64 cr.T.accel, .int .i64 cr.T.service, .int .i64 cr.T.emergency, .int .i64 cr.T.delay, .int .i64 cr.T.cons, .int .i64 cr.T.rate, .int .i64 cr.mode, .int .i64 cr.brake, .int .i64 cr.next, .int .i64 cr.E.min, .int .i64 cr.E.max, .int .i64 cr.E.speed, .int .i64 cr.seq, .int .i64 cr.en, .slice A3 cr.p.length ca3, .slice L3 cr.k.length cl3, .int .i64 cr.peer, .int .i64 cr.out, .int .i64 cr.inn, .int .i64 cr.heard, .bool cr.known, .int .i64 cr.since] rfl rfl rfl (HOR1v9.out).cells Tryd.underlying35 szCab rfl ?_; go_simp
    refine wq_ldN 35 [.int .i64 cr.T.id, .string cr.T.name, .int .i64 cr.T.len, .int .i64 cr.T.speed, .int .i64 cr.T.accel, .int .i64 cr.T.service, .int .i64 cr.T.emergency, .int .i64 cr.T.delay, .int .i64 cr.T.cons, .int .i64 cr.T.rate, .int .i64 cr.mode, .int .i64 cr.brake, .int .i64 cr.next, .int .i64 cr.E.min, .int .i64 cr.E.max, .int .i64 cr.E.speed, .int .i64 cr.seq, .int .i64 cr.en, .slice A4 cr.p.length ca4, .slice L4 cr.k.length cl4, .int .i64 cr.peer, .int .i64 cr.out, .int .i64 cr.inn, .int .i64 cr.heard, .bool cr.known, .int .i64 cr.since] rfl rfl rfl (HOR2.out).cells Tryd.underlying35 szCab rfl ?_; go_simp
    go_big_quiet_step ((go_at_call 14; exact after_call _ (HS2.out _ (After.is _))))
    go_big_quiet_step (fail)
    go_big_quiet_step (fail)
    refine wq_ldN 39 [.int .i64 mr.kind, .int .i64 mr.frm, .int .i64 mr.to_, .int .i64 mr.seq, .int .i64 mr.time, .int .i64 mr.aseq, .int .i64 mr.aen, .slice none mr.p.length 0, .slice none mr.k.length 0, .int .i64 mr.rmin, .int .i64 mr.rspeed, .int .i64 mr.rmode, .int .i64 mr.racc, .bool mr.rwhole] rfl rfl rfl (HOM1v9.out).cells Tryd.underlying39 szMsg rfl ?_; go_simp
    refine wq_ldN 39 [.int .i64 mr.kind, .int .i64 mr.frm, .int .i64 mr.to_, .int .i64 mr.seq, .int .i64 mr.time, .int .i64 mr.aseq, .int .i64 mr.aen, .slice none mr.p.length 0, .slice none mr.k.length 0, .int .i64 mr.rmin, .int .i64 mr.rspeed, .int .i64 mr.rmode, .int .i64 mr.racc, .bool mr.rwhole] rfl rfl rfl (HOM2.out).cells Tryd.underlying39 szMsg rfl ?_; go_simp
    go_big_quiet_step ((go_at_call 26; exact after_call _ (HSM.out _)))
    go_big_quiet_step (fail)
    go_big_quiet_step (fail)
    go_big_quiet_step ((go_at_call 11; exact after_call _ (HAL.out _ (HTx.out.keep (After.is _)))))
    go_big_quiet_step (fail)
    go_big_quiet_step (fail)
    refine wpQuiet_nil ?_
    (first | (rintro _ ⟨y, rfl⟩) | intro y | rename_i y)
    go_wp2
    go_ret
    exact ⟨rfl, etr HXv9.out y.is⟩
end Go.Proofs.YtbgmknkmfhpgeaaDoor
