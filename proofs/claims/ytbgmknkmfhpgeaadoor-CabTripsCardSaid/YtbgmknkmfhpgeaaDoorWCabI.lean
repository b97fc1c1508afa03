/- Walks: decisions. -/
import Derived.Test.YtbgmknkmfhpgeaaDoorWCabC
import Derived.Test.YtbgmknkmfhpgeaaDoorWSup3
set_option linter.unusedVariables false
set_option linter.unusedSimpArgs false
set_option maxRecDepth 100000
namespace Go.Proofs.YtbgmknkmfhpgeaaDoor
open Go.ChangeShapes Go.WideShapes Go.ChangeAt Go.RowKit
open Sg
set_option maxHeartbeats 8000000 in
theorem dec_def (c : Cb) (A L : Option Addr) (ca cl : Nat) (now : Int) (w : World) (hp : c.p.length ≤ 1000000) (hk : c.k.length ≤ 1000000) (hr : Rd w A 4 Sgc c.p) (hr2 : Rd w L 2 Lkc c.k) (h2 : (c.mode == 2) = false) (h3 : (c.mode == 3) = false) (h4 : (c.mode == 4) = false) (h5 : (c.mode == 5) = false) :
    Calls Tryd.prog 15 #[.agg #[.int .i64 c.T.id, .string c.T.name, .int .i64 c.T.len, .int .i64 c.T.speed, .int .i64 c.T.accel, .int .i64 c.T.service, .int .i64 c.T.emergency, .int .i64 c.T.delay, .int .i64 c.T.cons, .int .i64 c.T.rate, .int .i64 c.mode, .int .i64 c.brake, .int .i64 c.next, .int .i64 c.E.min, .int .i64 c.E.max, .int .i64 c.E.speed, .int .i64 c.seq, .int .i64 c.en, .slice A c.p.length ca, .slice L c.k.length cl, .int .i64 c.peer, .int .i64 c.out, .int .i64 c.inn, .int .i64 c.heard, .bool c.known, .int .i64 c.since], .int .i64 now] w fun e w' => CabR w { c with brake := 2 } e w' := by
  have HP := Lib.hid hr
  have HK := Lib.hid hr2
  clear hr hr2
  obtain ⟨w1, hw⟩ : ∃ w1, w1 = ((w.alloc (.cells #[.int .i64 c.T.id, .string c.T.name, .int .i64 c.T.len, .int .i64 c.T.speed, .int .i64 c.T.accel, .int .i64 c.T.service, .int .i64 c.T.emergency, .int .i64 c.T.delay, .int .i64 c.T.cons, .int .i64 c.T.rate, .int .i64 c.mode, .int .i64 c.brake, .int .i64 c.next, .int .i64 c.E.min, .int .i64 c.E.max, .int .i64 c.E.speed, .int .i64 c.seq, .int .i64 c.en, .slice A c.p.length ca, .slice L c.k.length cl, .int .i64 c.peer, .int .i64 c.out, .int .i64 c.inn, .int .i64 c.heard, .bool c.known, .int .i64 c.since] 35)).alloc (.cells #[.int .i64 0, .string ⟨#[]⟩, .int .i64 0, .int .i64 0, .int .i64 0, .int .i64 0, .int .i64 0, .int .i64 0, .int .i64 0, .int .i64 0, .int .i64 0, .int .i64 0, .int .i64 0, .int .i64 0, .int .i64 0, .int .i64 0, .int .i64 0, .int .i64 0, .slice none 0 0, .slice none 0 0, .int .i64 0, .int .i64 0, .int .i64 0, .int .i64 0, .bool false, .int .i64 0] 35)) := ⟨_, rfl⟩
  have HE0 : Hid (Ext w w1) := by rw [hw]; exact eal (eal (Ext.refl w) _) _
  have HB : Hid (Own w1 (w.heap.size) [.int .i64 c.T.id, .string c.T.name, .int .i64 c.T.len, .int .i64 c.T.speed, .int .i64 c.T.accel, .int .i64 c.T.service, .int .i64 c.T.emergency, .int .i64 c.T.delay, .int .i64 c.T.cons, .int .i64 c.T.rate, .int .i64 c.mode, .int .i64 c.brake, .int .i64 c.next, .int .i64 c.E.min, .int .i64 c.E.max, .int .i64 c.E.speed, .int .i64 c.seq, .int .i64 c.en, .slice A c.p.length ca, .slice L c.k.length cl, .int .i64 c.peer, .int .i64 c.out, .int .i64 c.inn, .int .i64 c.heard, .bool c.known, .int .i64 c.since]) := by rw [hw]; exact (Own.new (w := w) (cs := #[.int .i64 c.T.id, .string c.T.name, .int .i64 c.T.len, .int .i64 c.T.speed, .int .i64 c.T.accel, .int .i64 c.T.service, .int .i64 c.T.emergency, .int .i64 c.T.delay, .int .i64 c.T.cons, .int .i64 c.T.rate, .int .i64 c.mode, .int .i64 c.brake, .int .i64 c.next, .int .i64 c.E.min, .int .i64 c.E.max, .int .i64 c.E.speed, .int .i64 c.seq, .int .i64 c.en, .slice A c.p.length ca, .slice L c.k.length cl, .int .i64 c.peer, .int .i64 c.out, .int .i64 c.inn, .int .i64 c.heard, .bool c.known, .int .i64 c.since]) (t := 35) (by simp)).alloc _
  have HR : Hid (Own w1 (w.heap.size + 1) [.int .i64 0, .string ⟨#[]⟩, .int .i64 0, .int .i64 0, .int .i64 0, .int .i64 0, .int .i64 0, .int .i64 0, .int .i64 0, .int .i64 0, .int .i64 0, .int .i64 0, .int .i64 0, .int .i64 0, .int .i64 0, .int .i64 0, .int .i64 0, .int .i64 0, .slice none 0 0, .slice none 0 0, .int .i64 0, .int .i64 0, .int .i64 0, .int .i64 0, .bool false, .int .i64 0]) := by rw [hw]; exact Own.new (w := (w.alloc (.cells #[.int .i64 c.T.id, .string c.T.name, .int .i64 c.T.len, .int .i64 c.T.speed, .int .i64 c.T.accel, .int .i64 c.T.service, .int .i64 c.T.emergency, .int .i64 c.T.delay, .int .i64 c.T.cons, .int .i64 c.T.rate, .int .i64 c.mode, .int .i64 c.brake, .int .i64 c.next, .int .i64 c.E.min, .int .i64 c.E.max, .int .i64 c.E.speed, .int .i64 c.seq, .int .i64 c.en, .slice A c.p.length ca, .slice L c.k.length cl, .int .i64 c.peer, .int .i64 c.out, .int .i64 c.inn, .int .i64 c.heard, .bool c.known, .int .i64 c.since] 35))) (cs := #[.int .i64 0, .string ⟨#[]⟩, .int .i64 0, .int .i64 0, .int .i64 0, .int .i64 0, .int .i64 0, .int .i64 0, .int .i64 0, .int .i64 0, .int .i64 0, .int .i64 0, .int .i64 0, .int .i64 0, .int .i64 0, .int .i64 0, .int .i64 0, .int .i64 0, .slice none 0 0, .slice none 0 0, .int .i64 0, .int .i64 0, .int .i64 0, .int .i64 0, .bool false, .int .i64 0]) (t := 35) (by simp)
  go_enter Tryd.func15, Tryd.ntmps15
  go_upto_region 1 with (fail)
  rw [← hw]
  clear hw
  go_wp2_with (first | (refine wp_ldN 35 [.int .i64 c.T.id, .string c.T.name, .int .i64 c.T.len, .int .i64 c.T.speed, .int .i64 c.T.accel, .int .i64 c.T.service, .int .i64 c.T.emergency, .int .i64 c.T.delay, .int .i64 c.T.cons, .int .i64 c.T.rate, .int .i64 c.mode, .int .i64 c.brake, .int .i64 c.next, .int .i64 c.E.min, .int .i64 c.E.max, .int .i64 c.E.speed, .int .i64 c.seq, .int .i64 c.en, .slice A c.p.length ca, .slice L c.k.length cl, .int .i64 c.peer, .int .i64 c.out, .int .i64 c.inn, .int .i64 c.heard, .bool c.known, .int .i64 c.since] rfl rfl rfl (HB.out).cells Tryd.underlying35 szCab rfl ?_))
  refine (fresh_any c A L ca cl _ hp hk (HP.out.keep HE0.out) (HK.out.keep HE0.out)).mono ?_
  rintro e w2 ⟨A1, c1, L1, d1, rfl, h1, h2, hb⟩
  have z1 := HR.out.1
  have z0 := HE0.out.size
  have HA2 := Lib.hid h1
  have HL2 := Lib.hid h2
  have HE2 := Lib.hid (etr HE0.out hb)
  have HB2 := Lib.hid (HB.out.keep hb)
  have HR2 := Lib.hid (HR.out.keep hb)
  clear hb h1 h2
  go_upto_region 2 with (first | (refine wp_stN 35 [.int .i64 c.T.id, .string c.T.name, .int .i64 c.T.len, .int .i64 c.T.speed, .int .i64 c.T.accel, .int .i64 c.T.service, .int .i64 c.T.emergency, .int .i64 c.T.delay, .int .i64 c.T.cons, .int .i64 c.T.rate, .int .i64 c.mode, .int .i64 c.brake, .int .i64 c.next, .int .i64 c.E.min, .int .i64 c.E.max, .int .i64 c.E.speed, .int .i64 c.seq, .int .i64 c.en, .slice A1 c.p.length c1, .slice L1 c.k.length d1, .int .i64 c.peer, .int .i64 c.out, .int .i64 c.inn, .int .i64 c.heard, .bool c.known, .int .i64 c.since] [.int .i64 c.T.id, .string c.T.name, .int .i64 c.T.len, .int .i64 c.T.speed, .int .i64 c.T.accel, .int .i64 c.T.service, .int .i64 c.T.emergency, .int .i64 c.T.delay, .int .i64 c.T.cons, .int .i64 c.T.rate, .int .i64 c.mode, .int .i64 c.brake, .int .i64 c.next, .int .i64 c.E.min, .int .i64 c.E.max, .int .i64 c.E.speed, .int .i64 c.seq, .int .i64 c.en, .slice A1 c.p.length c1, .slice L1 c.k.length d1, .int .i64 c.peer, .int .i64 c.out, .int .i64 c.inn, .int .i64 c.heard, .bool c.known, .int .i64 c.since] rfl rfl rfl (HB2.out) rfl szCab rfl (by show (0 + 26 : Nat) ≤ 26; decide) rfl ?_; intro w3 H3))
  have HR3 := Lib.hid (HR2.out.only H3.out.2 (by simp))
  have HA3 := Lib.hid (HA2.out.only H3.out.2 (by omega))
  have HL3 := Lib.hid (HL2.out.only H3.out.2 (by omega))
  have HX3 := Lib.hid (eonly HE2.out H3.out.2 (Nat.le_refl _))
  replace H3 := Lib.hid H3.out.1
  have a10 := H3.out.cells.2 10 _ rfl
  have a11 := H3.out.cells.2 11 _ rfl
  have az := H3.out.cells.1
  have af := H3.out.2.2
  go_upto_region 20 with (fail)
  obtain ⟨w5, hw5⟩ : ∃ x, x = (w3.setCell ⟨w.heap.size, 11, none⟩ (.int .i64 2)) := ⟨_, rfl⟩
  obtain ⟨Ow5, Nw5⟩ := setN_at H3.out 11 [.int .i64 2] (ws := [.int .i64 c.T.id, .string c.T.name, .int .i64 c.T.len, .int .i64 c.T.speed, .int .i64 c.T.accel, .int .i64 c.T.service, .int .i64 c.T.emergency, .int .i64 c.T.delay, .int .i64 c.T.cons, .int .i64 c.T.rate, .int .i64 c.mode, .int .i64 2, .int .i64 c.next, .int .i64 c.E.min, .int .i64 c.E.max, .int .i64 c.E.speed, .int .i64 c.seq, .int .i64 c.en, .slice A1 c.p.length c1, .slice L1 c.k.length d1, .int .i64 c.peer, .int .i64 c.out, .int .i64 c.inn, .int .i64 c.heard, .bool c.known, .int .i64 c.since]) rfl (by simp) hw5
  rw [← hw5]
  clear hw5
  have HR5 := Lib.hid (HR3.out.only Nw5 (by omega))
  go_wp2_with (first | (refine wp_ldN 35 [.int .i64 c.T.id, .string c.T.name, .int .i64 c.T.len, .int .i64 c.T.speed, .int .i64 c.T.accel, .int .i64 c.T.service, .int .i64 c.T.emergency, .int .i64 c.T.delay, .int .i64 c.T.cons, .int .i64 c.T.rate, .int .i64 c.mode, .int .i64 2, .int .i64 c.next, .int .i64 c.E.min, .int .i64 c.E.max, .int .i64 c.E.speed, .int .i64 c.seq, .int .i64 c.en, .slice A1 c.p.length c1, .slice L1 c.k.length d1, .int .i64 c.peer, .int .i64 c.out, .int .i64 c.inn, .int .i64 c.heard, .bool c.known, .int .i64 c.since] rfl rfl rfl (Ow5).cells Tryd.underlying35 szCab rfl ?_) | (refine wp_stN 35 [.int .i64 c.T.id, .string c.T.name, .int .i64 c.T.len, .int .i64 c.T.speed, .int .i64 c.T.accel, .int .i64 c.T.service, .int .i64 c.T.emergency, .int .i64 c.T.delay, .int .i64 c.T.cons, .int .i64 c.T.rate, .int .i64 c.mode, .int .i64 2, .int .i64 c.next, .int .i64 c.E.min, .int .i64 c.E.max, .int .i64 c.E.speed, .int .i64 c.seq, .int .i64 c.en, .slice A1 c.p.length c1, .slice L1 c.k.length d1, .int .i64 c.peer, .int .i64 c.out, .int .i64 c.inn, .int .i64 c.heard, .bool c.known, .int .i64 c.since] [.int .i64 c.T.id, .string c.T.name, .int .i64 c.T.len, .int .i64 c.T.speed, .int .i64 c.T.accel, .int .i64 c.T.service, .int .i64 c.T.emergency, .int .i64 c.T.delay, .int .i64 c.T.cons, .int .i64 c.T.rate, .int .i64 c.mode, .int .i64 2, .int .i64 c.next, .int .i64 c.E.min, .int .i64 c.E.max, .int .i64 c.E.speed, .int .i64 c.seq, .int .i64 c.en, .slice A1 c.p.length c1, .slice L1 c.k.length d1, .int .i64 c.peer, .int .i64 c.out, .int .i64 c.inn, .int .i64 c.heard, .bool c.known, .int .i64 c.since] rfl rfl rfl (HR5.out) rfl szCab rfl (by show (0 + 26 : Nat) ≤ 26; decide) rfl ?_; intro w4 H4))
  refine bodyPost_ret (res_c (by rfl) (by rfl) (H4.out.1).cells Tryd.underlying35 szCab) rfl ⟨A1, c1, L1, d1, rfl, ((HA3.out.only Nw5 (by omega)).only H4.out.2 (by omega)).mono (by omega), ((HL3.out.only Nw5 (by omega)).only H4.out.2 (by omega)).mono (by omega), eonly (eonly HX3.out Nw5 (by omega)) H4.out.2 (by omega)⟩

noncomputable def fullBr (c : Cb) (now : Int) : Int := if decdV c.T c.p c.E c.en c.brake = 0 ∧ recB c.heard now 6 = false then 1 else decdV c.T c.p c.E c.en c.brake
set_option maxHeartbeats 16000000 in
theorem dec_full (c : Cb) (A L : Option Addr) (ca cl : Nat) (now : Int) (w : World) (hp : c.p.length ≤ 1000000) (hk : c.k.length ≤ 1000000) (hr : Rd w A 4 Sgc c.p) (hr2 : Rd w L 2 Lkc c.k) (h2 : (c.mode == 2) = true) (hen : decide (c.en < c.E.min) = false) (hB : SupB c.T c.E c.en) (ih : I64 c.heard) (inw : I64 now) :
    Calls Tryd.prog 15 #[.agg #[.int .i64 c.T.id, .string c.T.name, .int .i64 c.T.len, .int .i64 c.T.speed, .int .i64 c.T.accel, .int .i64 c.T.service, .int .i64 c.T.emergency, .int .i64 c.T.delay, .int .i64 c.T.cons, .int .i64 c.T.rate, .int .i64 c.mode, .int .i64 c.brake, .int .i64 c.next, .int .i64 c.E.min, .int .i64 c.E.max, .int .i64 c.E.speed, .int .i64 c.seq, .int .i64 c.en, .slice A c.p.length ca, .slice L c.k.length cl, .int .i64 c.peer, .int .i64 c.out, .int .i64 c.inn, .int .i64 c.heard, .bool c.known, .int .i64 c.since], .int .i64 now] w fun e w' => CabR w { c with brake := fullBr c now } e w' := by
  have HP := Lib.hid hr
  have HK := Lib.hid hr2
  have HB0 := Lib.hid hB
  obtain ⟨dv, hdv⟩ : ∃ d, d = decdV c.T c.p c.E c.en c.brake := ⟨_, rfl⟩
  obtain ⟨rb, hrb⟩ : ∃ d, d = recB c.heard now 6 := ⟨_, rfl⟩
  have HLC : Hid (∀ x, Calls Tryd.prog 40 #[.agg #[.int .i64 c.peer, .int .i64 c.out, .int .i64 c.inn, .int .i64 c.heard], .int .i64 now] x fun e w' => e = .returned (.bool rb) ∧ Below x.heap.size x w') := fun x => by rw [hrb]; exact salive_any _ _ _ _ _ x ih inw
  have HFB : Hid (fullBr c now = if dv = 0 ∧ rb = false then 1 else dv) := by show _ = _; rw [hdv, hrb]; rfl
  have HDV := Lib.hid hdv
  clear hr hr2 hB hdv hrb ih inw
  obtain ⟨w1, hw⟩ : ∃ w1, w1 = ((w.alloc (.cells #[.int .i64 c.T.id, .string c.T.name, .int .i64 c.T.len, .int .i64 c.T.speed, .int .i64 c.T.accel, .int .i64 c.T.service, .int .i64 c.T.emergency, .int .i64 c.T.delay, .int .i64 c.T.cons, .int .i64 c.T.rate, .int .i64 c.mode, .int .i64 c.brake, .int .i64 c.next, .int .i64 c.E.min, .int .i64 c.E.max, .int .i64 c.E.speed, .int .i64 c.seq, .int .i64 c.en, .slice A c.p.length ca, .slice L c.k.length cl, .int .i64 c.peer, .int .i64 c.out, .int .i64 c.inn, .int .i64 c.heard, .bool c.known, .int .i64 c.since] 35)).alloc (.cells #[.int .i64 0, .string ⟨#[]⟩, .int .i64 0, .int .i64 0, .int .i64 0, .int .i64 0, .int .i64 0, .int .i64 0, .int .i64 0, .int .i64 0, .int .i64 0, .int .i64 0, .int .i64 0, .int .i64 0, .int .i64 0, .int .i64 0, .int .i64 0, .int .i64 0, .slice none 0 0, .slice none 0 0, .int .i64 0, .int .i64 0, .int .i64 0, .int .i64 0, .bool false, .int .i64 0] 35)) := ⟨_, rfl⟩
  have HE0 : Hid (Ext w w1) := by rw [hw]; exact eal (eal (Ext.refl w) _) _
  have HB : Hid (Own w1 (w.heap.size) [.int .i64 c.T.id, .string c.T.name, .int .i64 c.T.len, .int .i64 c.T.speed, .int .i64 c.T.accel, .int .i64 c.T.service, .int .i64 c.T.emergency, .int .i64 c.T.delay, .int .i64 c.T.cons, .int .i64 c.T.rate, .int .i64 c.mode, .int .i64 c.brake, .int .i64 c.next, .int .i64 c.E.min, .int .i64 c.E.max, .int .i64 c.E.speed, .int .i64 c.seq, .int .i64 c.en, .slice A c.p.length ca, .slice L c.k.length cl, .int .i64 c.peer, .int .i64 c.out, .int .i64 c.inn, .int .i64 c.heard, .bool c.known, .int .i64 c.since]) := by rw [hw]; exact (Own.new (w := w) (cs := #[.int .i64 c.T.id, .string c.T.name, .int .i64 c.T.len, .int .i64 c.T.speed, .int .i64 c.T.accel, .int .i64 c.T.service, .int .i64 c.T.emergency, .int .i64 c.T.delay, .int .i64 c.T.cons, .int .i64 c.T.rate, .int .i64 c.mode, .int .i64 c.brake, .int .i64 c.next, .int .i64 c.E.min, .int .i64 c.E.max, .int .i64 c.E.speed, .int .i64 c.seq, .int .i64 c.en, .slice A c.p.length ca, .slice L c.k.length cl, .int .i64 c.peer, .int .i64 c.out, .int .i64 c.inn, .int .i64 c.heard, .bool c.known, .int .i64 c.since]) (t := 35) (by simp)).alloc _
  have HR : Hid (Own w1 (w.heap.size + 1) [.int .i64 0, .string ⟨#[]⟩, .int .i64 0, .int .i64 0, .int .i64 0, .int .i64 0, .int .i64 0, .int .i64 0, .int .i64 0, .int .i64 0, .int .i64 0, .int .i64 0, .int .i64 0, .int .i64 0, .int .i64 0, .int .i64 0, .int .i64 0, .int .i64 0, .slice none 0 0, .slice none 0 0, .int .i64 0, .int .i64 0, .int .i64 0, .int .i64 0, .bool false, .int .i64 0]) := by rw [hw]; exact Own.new (w := (w.alloc (.cells #[.int .i64 c.T.id, .string c.T.name, .int .i64 c.T.len, .int .i64 c.T.speed, .int .i64 c.T.accel, .int .i64 c.T.service, .int .i64 c.T.emergency, .int .i64 c.T.delay, .int .i64 c.T.cons, .int .i64 c.T.rate, .int .i64 c.mode, .int .i64 c.brake, .int .i64 c.next, .int .i64 c.E.min, .int .i64 c.E.max, .int .i64 c.E.speed, .int .i64 c.seq, .int .i64 c.en, .slice A c.p.length ca, .slice L c.k.length cl, .int .i64 c.peer, .int .i64 c.out, .int .i64 c.inn, .int .i64 c.heard, .bool c.known, .int .i64 c.since] 35))) (cs := #[.int .i64 0, .string ⟨#[]⟩, .int .i64 0, .int .i64 0, .int .i64 0, .int .i64 0, .int .i64 0, .int .i64 0, .int .i64 0, .int .i64 0, .int .i64 0, .int .i64 0, .int .i64 0, .int .i64 0, .int .i64 0, .int .i64 0, .int .i64 0, .int .i64 0, .slice none 0 0, .slice none 0 0, .int .i64 0, .int .i64 0, .int .i64 0, .int .i64 0, .bool false, .int .i64 0]) (t := 35) (by simp)
  go_enter Tryd.func15, Tryd.ntmps15
  go_upto_region 1 with (fail)
  rw [← hw]
  clear hw
  go_wp2_with (first | (refine wp_ldN 35 [.int .i64 c.T.id, .string c.T.name, .int .i64 c.T.len, .int .i64 c.T.speed, .int .i64 c.T.accel, .int .i64 c.T.service, .int .i64 c.T.emergency, .int .i64 c.T.delay, .int .i64 c.T.cons, .int .i64 c.T.rate, .int .i64 c.mode, .int .i64 c.brake, .int .i64 c.next, .int .i64 c.E.min, .int .i64 c.E.max, .int .i64 c.E.speed, .int .i64 c.seq, .int .i64 c.en, .slice A c.p.length ca, .slice L c.k.length cl, .int .i64 c.peer, .int .i64 c.out, .int .i64 c.inn, .int .i64 c.heard, .bool c.known, .int .i64 c.since] rfl rfl rfl (HB.out).cells Tryd.underlying35 szCab rfl ?_))
  refine (fresh_any c A L ca cl _ hp hk (HP.out.keep HE0.out) (HK.out.keep HE0.out)).mono ?_
  rintro e w2 ⟨A1, c1, L1, d1, rfl, h1, h2, hb⟩
  have z1 := HR.out.1
  have z0 := HE0.out.size
  have HA2 := Lib.hid h1
  have HL2 := Lib.hid h2
  have HE2 := Lib.hid (etr HE0.out hb)
  have HB2 := Lib.hid (HB.out.keep hb)
  have HR2 := Lib.hid (HR.out.keep hb)
  clear hb h1 h2
  go_upto_region 2 with (first | (refine wp_stN 35 [.int .i64 c.T.id, .string c.T.name, .int .i64 c.T.len, .int .i64 c.T.speed, .int .i64 c.T.accel, .int .i64 c.T.service, .int .i64 c.T.emergency, .int .i64 c.T.delay, .int .i64 c.T.cons, .int .i64 c.T.rate, .int .i64 c.mode, .int .i64 c.brake, .int .i64 c.next, .int .i64 c.E.min, .int .i64 c.E.max, .int .i64 c.E.speed, .int .i64 c.seq, .int .i64 c.en, .slice A1 c.p.length c1, .slice L1 c.k.length d1, .int .i64 c.peer, .int .i64 c.out, .int .i64 c.inn, .int .i64 c.heard, .bool c.known, .int .i64 c.since] [.int .i64 c.T.id, .string c.T.name, .int .i64 c.T.len, .int .i64 c.T.speed, .int .i64 c.T.accel, .int .i64 c.T.service, .int .i64 c.T.emergency, .int .i64 c.T.delay, .int .i64 c.T.cons, .int .i64 c.T.rate, .int .i64 c.mode, .int .i64 c.brake, .int .i64 c.next, .int .i64 c.E.min, .int .i64 c.E.max, .int .i64 c.E.speed, .int .i64 c.seq, .int .i64 c.en, .slice A1 c.p.length c1, .slice L1 c.k.length d1, .int .i64 c.peer, .int .i64 c.out, .int .i64 c.inn, .int .i64 c.heard, .bool c.known, .int .i64 c.since] rfl rfl rfl (HB2.out) rfl szCab rfl (by show (0 + 26 : Nat) ≤ 26; decide) rfl ?_; intro w3 H3))
  have HR3 := Lib.hid (HR2.out.only H3.out.2 (by simp))
  have HA3 := Lib.hid (HA2.out.only H3.out.2 (by omega))
  have HL3 := Lib.hid (HL2.out.only H3.out.2 (by omega))
  have HX3 := Lib.hid (eonly HE2.out H3.out.2 (Nat.le_refl _))
  replace H3 := Lib.hid H3.out.1
  have HDC : Hid (Calls Tryd.prog 39 #[.agg #[.int .i64 c.T.id, .string c.T.name, .int .i64 c.T.len, .int .i64 c.T.speed, .int .i64 c.T.accel, .int .i64 c.T.service, .int .i64 c.T.emergency, .int .i64 c.T.delay, .int .i64 c.T.cons, .int .i64 c.T.rate], .agg #[.int .i64 c.seq, .int .i64 c.en, .slice A1 c.p.length c1, .slice L1 c.k.length d1], .agg #[.int .i64 c.E.min, .int .i64 c.E.max, .int .i64 c.E.speed], .int .i64 c.brake] w3 fun e w' => e = .returned (.int .i64 dv) ∧ Below w3.heap.size w3 w') := by
    show Calls _ _ _ _ _
    rw [HDV.out]
    exact sdec_any c.T c.E c.seq c.en A1 L1 c.p c1 c.k.length d1 c.brake w3 hp HB0.out HA3.out.1
  have a10 := H3.out.cells.2 10 _ rfl
  have a11 := H3.out.cells.2 11 _ rfl
  have a13 := H3.out.cells.2 13 _ rfl
  have a17 := H3.out.cells.2 17 _ rfl
  have az := H3.out.cells.1
  go_wp2_with (first | (refine wp_ldN 23 [.int .i64 c.T.id, .string c.T.name, .int .i64 c.T.len, .int .i64 c.T.speed, .int .i64 c.T.accel, .int .i64 c.T.service, .int .i64 c.T.emergency, .int .i64 c.T.delay, .int .i64 c.T.cons, .int .i64 c.T.rate] rfl rfl rfl (H3.out).cells Tryd.underlying23 szTr rfl ?_) | (refine wp_ldN 29 [.int .i64 c.seq, .int .i64 c.en, .slice A1 c.p.length c1, .slice L1 c.k.length d1] rfl rfl rfl (H3.out).cells Tryd.underlying29 szAut rfl ?_) | (refine wp_ldN 25 [.int .i64 c.E.min, .int .i64 c.E.max, .int .i64 c.E.speed] rfl rfl rfl (H3.out).cells Tryd.underlying25 szEst rfl ?_))
  refine HDC.out.mono ?_
  rintro e w4 ⟨rfl, hb⟩
  have H4 := Lib.hid (H3.out.keep hb)
  have HR4 := Lib.hid (HR3.out.keep hb)
  have HA4 := Lib.hid (HA3.out.keep hb)
  have HL4 := Lib.hid (HL3.out.keep hb)
  have HX4 := Lib.hid (etr HX3.out hb)
  clear hb a10 a11 a13 a17 az
  have a11 := H4.out.cells.2 11 _ rfl
  have az := H4.out.cells.1
  have af := H4.out.2.2
  go_upto_region 10 with (fail)
  obtain ⟨w5, hw5⟩ : ∃ x, x = (w4.setCell ⟨w.heap.size, 11, none⟩ (.int .i64 dv)) := ⟨_, rfl⟩
  obtain ⟨Ow5, Nw5⟩ := setN_at H4.out 11 [.int .i64 dv] (ws := [.int .i64 c.T.id, .string c.T.name, .int .i64 c.T.len, .int .i64 c.T.speed, .int .i64 c.T.accel, .int .i64 c.T.service, .int .i64 c.T.emergency, .int .i64 c.T.delay, .int .i64 c.T.cons, .int .i64 c.T.rate, .int .i64 c.mode, .int .i64 dv, .int .i64 c.next, .int .i64 c.E.min, .int .i64 c.E.max, .int .i64 c.E.speed, .int .i64 c.seq, .int .i64 c.en, .slice A1 c.p.length c1, .slice L1 c.k.length d1, .int .i64 c.peer, .int .i64 c.out, .int .i64 c.inn, .int .i64 c.heard, .bool c.known, .int .i64 c.since]) rfl (by simp) hw5
  rw [← hw5]
  clear hw5
  have HRw5 := Lib.hid (HR4.out.only Nw5 (by omega))
  have HAw5 := Lib.hid (HA4.out.only Nw5 (by omega))
  have HLw5 := Lib.hid (HL4.out.only Nw5 (by omega))
  have HXw5 := Lib.hid (eonly HX4.out Nw5 (by omega))
  clear a11 az af Nw5
  have a11 := Ow5.cells.2 11 _ rfl
  have a20 := Ow5.cells.2 20 _ rfl
  have a21 := Ow5.cells.2 21 _ rfl
  have a22 := Ow5.cells.2 22 _ rfl
  have a23 := Ow5.cells.2 23 _ rfl
  have az := Ow5.cells.1
  have af := Ow5.2.2
  cases q1 : (dv == 0)
  · have HV : Hid (fullBr c now = dv) := by show _ = _; rw [HFB.out, if_neg]; rintro ⟨h, _⟩; rw [h] at q1; cases q1
    clear HDC HDV
    go_wp2_with (first | (refine wp_ldN 35 [.int .i64 c.T.id, .string c.T.name, .int .i64 c.T.len, .int .i64 c.T.speed, .int .i64 c.T.accel, .int .i64 c.T.service, .int .i64 c.T.emergency, .int .i64 c.T.delay, .int .i64 c.T.cons, .int .i64 c.T.rate, .int .i64 c.mode, .int .i64 dv, .int .i64 c.next, .int .i64 c.E.min, .int .i64 c.E.max, .int .i64 c.E.speed, .int .i64 c.seq, .int .i64 c.en, .slice A1 c.p.length c1, .slice L1 c.k.length d1, .int .i64 c.peer, .int .i64 c.out, .int .i64 c.inn, .int .i64 c.heard, .bool c.known, .int .i64 c.since] rfl rfl rfl (Ow5).cells Tryd.underlying35 szCab rfl ?_) | (refine wp_stN 35 [.int .i64 c.T.id, .string c.T.name, .int .i64 c.T.len, .int .i64 c.T.speed, .int .i64 c.T.accel, .int .i64 c.T.service, .int .i64 c.T.emergency, .int .i64 c.T.delay, .int .i64 c.T.cons, .int .i64 c.T.rate, .int .i64 c.mode, .int .i64 dv, .int .i64 c.next, .int .i64 c.E.min, .int .i64 c.E.max, .int .i64 c.E.speed, .int .i64 c.seq, .int .i64 c.en, .slice A1 c.p.length c1, .slice L1 c.k.length d1, .int .i64 c.peer, .int .i64 c.out, .int .i64 c.inn, .int .i64 c.heard, .bool c.known, .int .i64 c.since] [.int .i64 c.T.id, .string c.T.name, .int .i64 c.T.len, .int .i64 c.T.speed, .int .i64 c.T.accel, .int .i64 c.T.service, .int .i64 c.T.emergency, .int .i64 c.T.delay, .int .i64 c.T.cons, .int .i64 c.T.rate, .int .i64 c.mode, .int .i64 dv, .int .i64 c.next, .int .i64 c.E.min, .int .i64 c.E.max, .int .i64 c.E.speed, .int .i64 c.seq, .int .i64 c.en, .slice A1 c.p.length c1, .slice L1 c.k.length d1, .int .i64 c.peer, .int .i64 c.out, .int .i64 c.inn, .int .i64 c.heard, .bool c.known, .int .i64 c.since] rfl rfl rfl (HRw5.out) rfl szCab rfl (by show (0 + 26 : Nat) ≤ 26; decide) rfl ?_; intro w9 H9))
    refine bodyPost_ret (res_c (by rfl) (by rfl) H9.out.1.cells Tryd.underlying35 szCab) rfl ?_
    rw [HV.out]
    exact ⟨A1, c1, L1, d1, rfl, (HAw5.out.only H9.out.2 (by omega)).mono (by omega), (HLw5.out.only H9.out.2 (by omega)).mono (by omega), eonly HXw5.out H9.out.2 (by omega)⟩
  · obtain rfl : dv = 0 := by simpa using q1
    cases rb
    · have HV : Hid (fullBr c now = 1) := HFB.out.trans (if_pos ⟨rfl, rfl⟩)
      clear HDC HDV q1
      go_wp2_with fail
      refine (HLC.out _).mono ?_
      rintro e w6 ⟨rfl, hb⟩
      have O6 := Lib.hid (Ow5.keep hb)
      have HR6 := Lib.hid (HRw5.out.keep hb)
      have HA6 := Lib.hid (HAw5.out.keep hb)
      have HL6 := Lib.hid (HLw5.out.keep hb)
      have HX6 := Lib.hid (etr HXw5.out hb)
      clear hb a11 a20 a21 a22 a23 az af
      have a11 := O6.out.cells.2 11 _ rfl
      have az := O6.out.cells.1
      have af := O6.out.2.2
      go_upto_region 20 with (fail)
      obtain ⟨w7, hw7⟩ : ∃ x, x = (w6.setCell ⟨w.heap.size, 11, none⟩ (.int .i64 1)) := ⟨_, rfl⟩
      obtain ⟨Ow7, Nw7⟩ := setN_at O6.out 11 [.int .i64 1] (ws := [.int .i64 c.T.id, .string c.T.name, .int .i64 c.T.len, .int .i64 c.T.speed, .int .i64 c.T.accel, .int .i64 c.T.service, .int .i64 c.T.emergency, .int .i64 c.T.delay, .int .i64 c.T.cons, .int .i64 c.T.rate, .int .i64 c.mode, .int .i64 1, .int .i64 c.next, .int .i64 c.E.min, .int .i64 c.E.max, .int .i64 c.E.speed, .int .i64 c.seq, .int .i64 c.en, .slice A1 c.p.length c1, .slice L1 c.k.length d1, .int .i64 c.peer, .int .i64 c.out, .int .i64 c.inn, .int .i64 c.heard, .bool c.known, .int .i64 c.since]) rfl (by simp) hw7
      rw [← hw7]
      clear hw7
      have HRw7 := Lib.hid (HR6.out.only Nw7 (by omega))
      have HAw7 := Lib.hid (HA6.out.only Nw7 (by omega))
      have HLw7 := Lib.hid (HL6.out.only Nw7 (by omega))
      have HXw7 := Lib.hid (eonly HX6.out Nw7 (by omega))
      go_wp2_with (first | (refine wp_ldN 35 [.int .i64 c.T.id, .string c.T.name, .int .i64 c.T.len, .int .i64 c.T.speed, .int .i64 c.T.accel, .int .i64 c.T.service, .int .i64 c.T.emergency, .int .i64 c.T.delay, .int .i64 c.T.cons, .int .i64 c.T.rate, .int .i64 c.mode, .int .i64 1, .int .i64 c.next, .int .i64 c.E.min, .int .i64 c.E.max, .int .i64 c.E.speed, .int .i64 c.seq, .int .i64 c.en, .slice A1 c.p.length c1, .slice L1 c.k.length d1, .int .i64 c.peer, .int .i64 c.out, .int .i64 c.inn, .int .i64 c.heard, .bool c.known, .int .i64 c.since] rfl rfl rfl (Ow7).cells Tryd.underlying35 szCab rfl ?_) | (refine wp_stN 35 [.int .i64 c.T.id, .string c.T.name, .int .i64 c.T.len, .int .i64 c.T.speed, .int .i64 c.T.accel, .int .i64 c.T.service, .int .i64 c.T.emergency, .int .i64 c.T.delay, .int .i64 c.T.cons, .int .i64 c.T.rate, .int .i64 c.mode, .int .i64 1, .int .i64 c.next, .int .i64 c.E.min, .int .i64 c.E.max, .int .i64 c.E.speed, .int .i64 c.seq, .int .i64 c.en, .slice A1 c.p.length c1, .slice L1 c.k.length d1, .int .i64 c.peer, .int .i64 c.out, .int .i64 c.inn, .int .i64 c.heard, .bool c.known, .int .i64 c.since] [.int .i64 c.T.id, .string c.T.name, .int .i64 c.T.len, .int .i64 c.T.speed, .int .i64 c.T.accel, .int .i64 c.T.service, .int .i64 c.T.emergency, .int .i64 c.T.delay, .int .i64 c.T.cons, .int .i64 c.T.rate, .int .i64 c.mode, .int .i64 1, .int .i64 c.next, .int .i64 c.E.min, .int .i64 c.E.max, .int .i64 c.E.speed, .int .i64 c.seq, .int .i64 c.en, .slice A1 c.p.length c1, .slice L1 c.k.length d1, .int .i64 c.peer, .int .i64 c.out, .int .i64 c.inn, .int .i64 c.heard, .bool c.known, .int .i64 c.since] rfl rfl rfl (HRw7.out) rfl szCab rfl (by show (0 + 26 : Nat) ≤ 26; decide) rfl ?_; intro w9 H9))
      refine bodyPost_ret (res_c (by rfl) (by rfl) H9.out.1.cells Tryd.underlying35 szCab) rfl ?_
      rw [HV.out]
      exact ⟨A1, c1, L1, d1, rfl, (HAw7.out.only H9.out.2 (by omega)).mono (by omega), (HLw7.out.only H9.out.2 (by omega)).mono (by omega), eonly HXw7.out H9.out.2 (by omega)⟩
    · have HV : Hid (fullBr c now = 0) := HFB.out.trans (if_neg (by rintro ⟨_, h⟩; cases h))
      clear HDC HDV q1
      go_wp2_with fail
      refine (HLC.out _).mono ?_
      rintro e w6 ⟨rfl, hb⟩
      have Ow6 := Ow5.keep hb
      have HRw6 := Lib.hid (HRw5.out.keep hb)
      have HAw6 := Lib.hid (HAw5.out.keep hb)
      have HLw6 := Lib.hid (HLw5.out.keep hb)
      have HXw6 := Lib.hid (etr HXw5.out hb)
      clear hb a11 a20 a21 a22 a23 az af
      go_wp2_with (first | (refine wp_ldN 35 [.int .i64 c.T.id, .string c.T.name, .int .i64 c.T.len, .int .i64 c.T.speed, .int .i64 c.T.accel, .int .i64 c.T.service, .int .i64 c.T.emergency, .int .i64 c.T.delay, .int .i64 c.T.cons, .int .i64 c.T.rate, .int .i64 c.mode, .int .i64 0, .int .i64 c.next, .int .i64 c.E.min, .int .i64 c.E.max, .int .i64 c.E.speed, .int .i64 c.seq, .int .i64 c.en, .slice A1 c.p.length c1, .slice L1 c.k.length d1, .int .i64 c.peer, .int .i64 c.out, .int .i64 c.inn, .int .i64 c.heard, .bool c.known, .int .i64 c.since] rfl rfl rfl (Ow6).cells Tryd.underlying35 szCab rfl ?_) | (refine wp_stN 35 [.int .i64 c.T.id, .string c.T.name, .int .i64 c.T.len, .int .i64 c.T.speed, .int .i64 c.T.accel, .int .i64 c.T.service, .int .i64 c.T.emergency, .int .i64 c.T.delay, .int .i64 c.T.cons, .int .i64 c.T.rate, .int .i64 c.mode, .int .i64 0, .int .i64 c.next, .int .i64 c.E.min, .int .i64 c.E.max, .int .i64 c.E.speed, .int .i64 c.seq, .int .i64 c.en, .slice A1 c.p.length c1, .slice L1 c.k.length d1, .int .i64 c.peer, .int .i64 c.out, .int .i64 c.inn, .int .i64 c.heard, .bool c.known, .int .i64 c.since] [.int .i64 c.T.id, .string c.T.name, .int .i64 c.T.len, .int .i64 c.T.speed, .int .i64 c.T.accel, .int .i64 c.T.service, .int .i64 c.T.emergency, .int .i64 c.T.delay, .int .i64 c.T.cons, .int .i64 c.T.rate, .int .i64 c.mode, .int .i64 0, .int .i64 c.next, .int .i64 c.E.min, .int .i64 c.E.max, .int .i64 c.E.speed, .int .i64 c.seq, .int .i64 c.en, .slice A1 c.p.length c1, .slice L1 c.k.length d1, .int .i64 c.peer, .int .i64 c.out, .int .i64 c.inn, .int .i64 c.heard, .bool c.known, .int .i64 c.since] rfl rfl rfl (HRw6.out) rfl szCab rfl (by show (0 + 26 : Nat) ≤ 26; decide) rfl ?_; intro w9 H9))
      refine bodyPost_ret (res_c (by rfl) (by rfl) H9.out.1.cells Tryd.underlying35 szCab) rfl ?_
      rw [HV.out]
      exact ⟨A1, c1, L1, d1, rfl, (HAw6.out.only H9.out.2 (by omega)).mono (by omega), (HLw6.out.only H9.out.2 (by omega)).mono (by omega), eonly HXw6.out H9.out.2 (by omega)⟩
end Go.Proofs.YtbgmknkmfhpgeaaDoor
