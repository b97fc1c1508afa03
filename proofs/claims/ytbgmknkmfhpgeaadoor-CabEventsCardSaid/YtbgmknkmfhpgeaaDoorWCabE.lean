/- Walks: the report of a unit. -/
import Derived.Test.YtbgmknkmfhpgeaaDoorWCabD
import Derived.Test.YtbgmknkmfhpgeaaDoorMonoB
set_option linter.unusedVariables false
set_option linter.unusedSimpArgs false
set_option maxRecDepth 100000
namespace Go.Proofs.YtbgmknkmfhpgeaaDoor
open Go.ChangeShapes Go.WideShapes Go.ChangeAt Go.RowKit
open Sg
set_option maxHeartbeats 16000000 in
theorem report_any (c : Cb) (A L : Option Addr) (ca cl : Nat) (now : Int) (w : World) (hp : c.p.length ≤ 1000000) (hk : c.k.length ≤ 1000000) (hr : Rd w A 4 Sgc c.p) (hr2 : Rd w L 2 Lkc c.k) (io : I64 c.out) (is : I64 c.since) (inw : I64 now) : Calls Tryd.prog 22 #[.agg #[.int .i64 c.T.id, .string c.T.name, .int .i64 c.T.len, .int .i64 c.T.speed, .int .i64 c.T.accel, .int .i64 c.T.service, .int .i64 c.T.emergency, .int .i64 c.T.delay, .int .i64 c.T.cons, .int .i64 c.T.rate, .int .i64 c.mode, .int .i64 c.brake, .int .i64 c.next, .int .i64 c.E.min, .int .i64 c.E.max, .int .i64 c.E.speed, .int .i64 c.seq, .int .i64 c.en, .slice A c.p.length ca, .slice L c.k.length cl, .int .i64 c.peer, .int .i64 c.out, .int .i64 c.inn, .int .i64 c.heard, .bool c.known, .int .i64 c.since], .int .i64 now] w fun e w' =>
    ∃ A' ca' L' cl', e = .returned (.tuple #[.agg #[.int .i64 (repC c).T.id, .string (repC c).T.name, .int .i64 (repC c).T.len, .int .i64 (repC c).T.speed, .int .i64 (repC c).T.accel, .int .i64 (repC c).T.service, .int .i64 (repC c).T.emergency, .int .i64 (repC c).T.delay, .int .i64 (repC c).T.cons, .int .i64 (repC c).T.rate, .int .i64 (repC c).mode, .int .i64 (repC c).brake, .int .i64 (repC c).next, .int .i64 (repC c).E.min, .int .i64 (repC c).E.max, .int .i64 (repC c).E.speed, .int .i64 (repC c).seq, .int .i64 (repC c).en, .slice A' (repC c).p.length ca', .slice L' (repC c).k.length cl', .int .i64 (repC c).peer, .int .i64 (repC c).out, .int .i64 (repC c).inn, .int .i64 (repC c).heard, .bool (repC c).known, .int .i64 (repC c).since], .agg #[.int .i64 (repM c now).kind, .int .i64 (repM c now).frm, .int .i64 (repM c now).to_, .int .i64 (repM c now).seq, .int .i64 (repM c now).time, .int .i64 (repM c now).aseq, .int .i64 (repM c now).aen, .slice none (repM c now).p.length 0, .slice none (repM c now).k.length 0, .int .i64 (repM c now).rmin, .int .i64 (repM c now).rspeed, .int .i64 (repM c now).rmode, .int .i64 (repM c now).racc, .bool (repM c now).rwhole]]) ∧ RdN w.heap.size w' A' 4 Sgc c.p ∧ RdN w.heap.size w' L' 2 Lkc c.k ∧ Below w.heap.size w w' := by
  have HP := Lib.hid hr
  have HK := Lib.hid hr2
  obtain ⟨ov, hov⟩ : ∃ v, v = outV c := ⟨_, rfl⟩
  obtain ⟨wb, hwb⟩ : ∃ v, v = whoB c now := ⟨_, rfl⟩
  have HOV := Lib.hid hov
  have HWB := Lib.hid hwb
  have HWC : Hid (∀ x, Calls Tryd.prog 51 #[.agg #[.bool c.known, .int .i64 c.since], .int .i64 now] x fun e w' => e = .returned (.bool wb) ∧ Below x.heap.size x w') := fun x => by rw [hwb]; exact iwhole_any _ _ _ x is inw
  have HSC : Hid (∀ x, Calls Tryd.prog 52 #[.agg #[.int .i64 c.peer, .int .i64 c.out, .int .i64 c.inn, .int .i64 c.heard], .agg #[.int .i64 1, .int .i64 c.T.id, .int .i64 0, .int .i64 0, .int .i64 0, .int .i64 0, .int .i64 0, .slice none 0 0, .slice none 0 0, .int .i64 c.E.min, .int .i64 c.E.speed, .int .i64 c.mode, .int .i64 c.seq, .bool wb], .int .i64 now] x fun e w' => e = .returned (.tuple #[.agg #[.int .i64 c.peer, .int .i64 ov, .int .i64 c.inn, .int .i64 c.heard], .agg #[.int .i64 1, .int .i64 c.T.id, .int .i64 c.peer, .int .i64 ov, .int .i64 now, .int .i64 0, .int .i64 0, .slice none 0 0, .slice none 0 0, .int .i64 c.E.min, .int .i64 c.E.speed, .int .i64 c.mode, .int .i64 c.seq, .bool wb]]) ∧ Below x.heap.size x w') := fun x => by rw [hov]; exact send_any _ _ _ _ _ _ _ _ _ _ _ _ _ _ _ _ _ x io
  clear hr hr2 hov hwb
  obtain ⟨w1, hw⟩ : ∃ w1, w1 = (((w.alloc (.cells #[.int .i64 c.T.id, .string c.T.name, .int .i64 c.T.len, .int .i64 c.T.speed, .int .i64 c.T.accel, .int .i64 c.T.service, .int .i64 c.T.emergency, .int .i64 c.T.delay, .int .i64 c.T.cons, .int .i64 c.T.rate, .int .i64 c.mode, .int .i64 c.brake, .int .i64 c.next, .int .i64 c.E.min, .int .i64 c.E.max, .int .i64 c.E.speed, .int .i64 c.seq, .int .i64 c.en, .slice A c.p.length ca, .slice L c.k.length cl, .int .i64 c.peer, .int .i64 c.out, .int .i64 c.inn, .int .i64 c.heard, .bool c.known, .int .i64 c.since] 35)).alloc (.cells #[.int .i64 0, .string ⟨#[]⟩, .int .i64 0, .int .i64 0, .int .i64 0, .int .i64 0, .int .i64 0, .int .i64 0, .int .i64 0, .int .i64 0, .int .i64 0, .int .i64 0, .int .i64 0, .int .i64 0, .int .i64 0, .int .i64 0, .int .i64 0, .int .i64 0, .slice none 0 0, .slice none 0 0, .int .i64 0, .int .i64 0, .int .i64 0, .int .i64 0, .bool false, .int .i64 0] 35)).alloc (.cells #[.int .i64 0, .int .i64 0, .int .i64 0, .int .i64 0, .int .i64 0, .int .i64 0, .int .i64 0, .slice none 0 0, .slice none 0 0, .int .i64 0, .int .i64 0, .int .i64 0, .int .i64 0, .bool false] 39)) := ⟨_, rfl⟩
  have HE0 : Hid (Ext w w1) := by rw [hw]; exact eal (eal (eal (Ext.refl w) _) _) _
  have HB : Hid (Own w1 (w.heap.size) [.int .i64 c.T.id, .string c.T.name, .int .i64 c.T.len, .int .i64 c.T.speed, .int .i64 c.T.accel, .int .i64 c.T.service, .int .i64 c.T.emergency, .int .i64 c.T.delay, .int .i64 c.T.cons, .int .i64 c.T.rate, .int .i64 c.mode, .int .i64 c.brake, .int .i64 c.next, .int .i64 c.E.min, .int .i64 c.E.max, .int .i64 c.E.speed, .int .i64 c.seq, .int .i64 c.en, .slice A c.p.length ca, .slice L c.k.length cl, .int .i64 c.peer, .int .i64 c.out, .int .i64 c.inn, .int .i64 c.heard, .bool c.known, .int .i64 c.since]) := by rw [hw]; exact ((Own.new (w := w) (cs := #[.int .i64 c.T.id, .string c.T.name, .int .i64 c.T.len, .int .i64 c.T.speed, .int .i64 c.T.accel, .int .i64 c.T.service, .int .i64 c.T.emergency, .int .i64 c.T.delay, .int .i64 c.T.cons, .int .i64 c.T.rate, .int .i64 c.mode, .int .i64 c.brake, .int .i64 c.next, .int .i64 c.E.min, .int .i64 c.E.max, .int .i64 c.E.speed, .int .i64 c.seq, .int .i64 c.en, .slice A c.p.length ca, .slice L c.k.length cl, .int .i64 c.peer, .int .i64 c.out, .int .i64 c.inn, .int .i64 c.heard, .bool c.known, .int .i64 c.since]) (t := 35) (by simp)).alloc _).alloc _
  have HR : Hid (Own w1 (w.heap.size + 1) [.int .i64 0, .string ⟨#[]⟩, .int .i64 0, .int .i64 0, .int .i64 0, .int .i64 0, .int .i64 0, .int .i64 0, .int .i64 0, .int .i64 0, .int .i64 0, .int .i64 0, .int .i64 0, .int .i64 0, .int .i64 0, .int .i64 0, .int .i64 0, .int .i64 0, .slice none 0 0, .slice none 0 0, .int .i64 0, .int .i64 0, .int .i64 0, .int .i64 0, .bool false, .int .i64 0]) := by rw [hw]; exact (Own.new (w := (w.alloc (.cells #[.int .i64 c.T.id, .string c.T.name, .int .i64 c.T.len, .int .i64 c.T.speed, .int .i64 c.T.accel, .int .i64 c.T.service, .int .i64 c.T.emergency, .int .i64 c.T.delay, .int .i64 c.T.cons, .int .i64 c.T.rate, .int .i64 c.mode, .int .i64 c.brake, .int .i64 c.next, .int .i64 c.E.min, .int .i64 c.E.max, .int .i64 c.E.speed, .int .i64 c.seq, .int .i64 c.en, .slice A c.p.length ca, .slice L c.k.length cl, .int .i64 c.peer, .int .i64 c.out, .int .i64 c.inn, .int .i64 c.heard, .bool c.known, .int .i64 c.since] 35))) (cs := #[.int .i64 0, .string ⟨#[]⟩, .int .i64 0, .int .i64 0, .int .i64 0, .int .i64 0, .int .i64 0, .int .i64 0, .int .i64 0, .int .i64 0, .int .i64 0, .int .i64 0, .int .i64 0, .int .i64 0, .int .i64 0, .int .i64 0, .int .i64 0, .int .i64 0, .slice none 0 0, .slice none 0 0, .int .i64 0, .int .i64 0, .int .i64 0, .int .i64 0, .bool false, .int .i64 0]) (t := 35) (by simp)).alloc _
  have HT : Hid (Own w1 (w.heap.size + 1 + 1) [.int .i64 0, .int .i64 0, .int .i64 0, .int .i64 0, .int .i64 0, .int .i64 0, .int .i64 0, .slice none 0 0, .slice none 0 0, .int .i64 0, .int .i64 0, .int .i64 0, .int .i64 0, .bool false]) := by rw [hw]; exact Own.new (w := ((w.alloc (.cells #[.int .i64 c.T.id, .string c.T.name, .int .i64 c.T.len, .int .i64 c.T.speed, .int .i64 c.T.accel, .int .i64 c.T.service, .int .i64 c.T.emergency, .int .i64 c.T.delay, .int .i64 c.T.cons, .int .i64 c.T.rate, .int .i64 c.mode, .int .i64 c.brake, .int .i64 c.next, .int .i64 c.E.min, .int .i64 c.E.max, .int .i64 c.E.speed, .int .i64 c.seq, .int .i64 c.en, .slice A c.p.length ca, .slice L c.k.length cl, .int .i64 c.peer, .int .i64 c.out, .int .i64 c.inn, .int .i64 c.heard, .bool c.known, .int .i64 c.since] 35)).alloc (.cells #[.int .i64 0, .string ⟨#[]⟩, .int .i64 0, .int .i64 0, .int .i64 0, .int .i64 0, .int .i64 0, .int .i64 0, .int .i64 0, .int .i64 0, .int .i64 0, .int .i64 0, .int .i64 0, .int .i64 0, .int .i64 0, .int .i64 0, .int .i64 0, .int .i64 0, .slice none 0 0, .slice none 0 0, .int .i64 0, .int .i64 0, .int .i64 0, .int .i64 0, .bool false, .int .i64 0] 35))) (cs := #[.int .i64 0, .int .i64 0, .int .i64 0, .int .i64 0, .int .i64 0, .int .i64 0, .int .i64 0, .slice none 0 0, .slice none 0 0, .int .i64 0, .int .i64 0, .int .i64 0, .int .i64 0, .bool false]) (t := 39) (by simp)
  go_enter Tryd.func22, Tryd.ntmps22
  go_upto_region 1 with (fail)
  rw [← hw]
  clear hw
  go_wp2_with (first | (refine wp_ldN 35 [.int .i64 c.T.id, .string c.T.name, .int .i64 c.T.len, .int .i64 c.T.speed, .int .i64 c.T.accel, .int .i64 c.T.service, .int .i64 c.T.emergency, .int .i64 c.T.delay, .int .i64 c.T.cons, .int .i64 c.T.rate, .int .i64 c.mode, .int .i64 c.brake, .int .i64 c.next, .int .i64 c.E.min, .int .i64 c.E.max, .int .i64 c.E.speed, .int .i64 c.seq, .int .i64 c.en, .slice A c.p.length ca, .slice L c.k.length cl, .int .i64 c.peer, .int .i64 c.out, .int .i64 c.inn, .int .i64 c.heard, .bool c.known, .int .i64 c.since] rfl rfl rfl (HB.out).cells Tryd.underlying35 szCab rfl ?_))
  refine (fresh_any c A L ca cl _ hp hk (HP.out.keep HE0.out) (HK.out.keep HE0.out)).mono ?_
  rintro e w2 ⟨A1, c1, L1, d1, rfl, h1, h2, hb⟩
  have z1 := HR.out.1
  have z2 := HT.out.1
  have z0 := HE0.out.size
  have HA2 := Lib.hid h1
  have HL2 := Lib.hid h2
  have HE2 := Lib.hid (etr HE0.out hb)
  have HB2 := Lib.hid (HB.out.keep hb)
  have HR2 := Lib.hid (HR.out.keep hb)
  have HT2 := Lib.hid (HT.out.keep hb)
  clear hb h1 h2
  go_upto_region 2 with (first | (refine wp_stN 35 [.int .i64 c.T.id, .string c.T.name, .int .i64 c.T.len, .int .i64 c.T.speed, .int .i64 c.T.accel, .int .i64 c.T.service, .int .i64 c.T.emergency, .int .i64 c.T.delay, .int .i64 c.T.cons, .int .i64 c.T.rate, .int .i64 c.mode, .int .i64 c.brake, .int .i64 c.next, .int .i64 c.E.min, .int .i64 c.E.max, .int .i64 c.E.speed, .int .i64 c.seq, .int .i64 c.en, .slice A1 c.p.length c1, .slice L1 c.k.length d1, .int .i64 c.peer, .int .i64 c.out, .int .i64 c.inn, .int .i64 c.heard, .bool c.known, .int .i64 c.since] [.int .i64 c.T.id, .string c.T.name, .int .i64 c.T.len, .int .i64 c.T.speed, .int .i64 c.T.accel, .int .i64 c.T.service, .int .i64 c.T.emergency, .int .i64 c.T.delay, .int .i64 c.T.cons, .int .i64 c.T.rate, .int .i64 c.mode, .int .i64 c.brake, .int .i64 c.next, .int .i64 c.E.min, .int .i64 c.E.max, .int .i64 c.E.speed, .int .i64 c.seq, .int .i64 c.en, .slice A1 c.p.length c1, .slice L1 c.k.length d1, .int .i64 c.peer, .int .i64 c.out, .int .i64 c.inn, .int .i64 c.heard, .bool c.known, .int .i64 c.since] rfl rfl rfl (HB2.out) rfl szCab rfl (by show (0 + 26 : Nat) ≤ 26; decide) rfl ?_; intro w3 H3))
  have HR3 := Lib.hid (HR2.out.only H3.out.2 (by omega))
  have HT3 := Lib.hid (HT2.out.only H3.out.2 (by omega))
  have HA3 := Lib.hid (HA2.out.only H3.out.2 (by omega))
  have HL3 := Lib.hid (HL2.out.only H3.out.2 (by omega))
  have HX3 := Lib.hid (eonly HE2.out H3.out.2 (Nat.le_refl _))
  have z5 := HR3.out.1
  have z6 := HT3.out.1
  replace H3 := Lib.hid H3.out.1
  have a0 := H3.out.cells.2 0 _ rfl
  have a10 := H3.out.cells.2 10 _ rfl
  have a13 := H3.out.cells.2 13 _ rfl
  have a15 := H3.out.cells.2 15 _ rfl
  have a16 := H3.out.cells.2 16 _ rfl
  have a24 := H3.out.cells.2 24 _ rfl
  have a25 := H3.out.cells.2 25 _ rfl
  have az := H3.out.cells.1
  refine wp_region_monoB [0, 1, 2, 3, 4, 5, 6, 7, 8, 9, 10, 11, 12, 13, 14, 15, 16, 17, 18, 19] 2 (by kernel_rfl) (by kernel_rfl) (fun _ _ d _ _ h => by cases d <;> exact h) (by kernel_rfl) (by kernel_rfl) ?_
  repeat (refine wpE_step rfl (fun K hK => ?_); go_simp; (first
    | (refine hK _ ?_; clear hK K)
    | (apply Exists.intro
       refine ⟨fun x => ?_, hK _ ?_⟩
       (go_at_call 51; exact HWC.out _)
       clear hK K)))
  refine wpE_nil ?_
  intro x
  refine wpAnyB_ready (rs := [20]) (by kernel_rfl) (by simp) (AllB.cons rfl (fun K hK => ?_) AllB.nil)
  go_simp
  refine hK _ _ (ext_below (eal (Ext.refl _) _) (esz x.is)) (fun z => ?_)
  clear hK K
  have Oz := Lib.hid ((Own.new (w := x.val) (cs := #[.int .i64 0, .int .i64 0, .int .i64 0, .int .i64 0, .int .i64 0, .int .i64 0, .int .i64 0, .slice none 0 0, .slice none 0 0, .int .i64 0, .int .i64 0, .int .i64 0, .int .i64 0, .bool false]) (t := 39) rfl).keep z.is)
  have sx := x.is.size
  refine wpAnyB_ready (rs := [21]) (by kernel_rfl) (by simp) (AllB.cons rfl (fun K hK => ?_) AllB.nil)
  rw [if_pos (by rfl)]
  refine wpo_stN 39 [.int .i64 1, .int .i64 c.T.id, .int .i64 0, .int .i64 0, .int .i64 0, .int .i64 0, .int .i64 0, .slice none 0 0, .slice none 0 0, .int .i64 c.E.min, .int .i64 c.E.speed, .int .i64 c.mode, .int .i64 c.seq, .bool wb] [.int .i64 1, .int .i64 c.T.id, .int .i64 0, .int .i64 0, .int .i64 0, .int .i64 0, .int .i64 0, .slice none 0 0, .slice none 0 0, .int .i64 c.E.min, .int .i64 c.E.speed, .int .i64 c.mode, .int .i64 c.seq, .bool wb] rfl rfl (Oz.out) rfl szMsg rfl (by show (0 + 14 : Nat) ≤ 14; decide) rfl ?_; intro w4 H4
  refine hK _ _ (Below.only (Below.refl _ _) H4.out.2 sx) (fun z4 => ?_)
  clear hK K
  refine wpAnyB_done (by kernel_rfl) ?_ _
  have HXz := Lib.hid (etr (eonly (etr (eal x.is _) z.is) H4.out.2 sx) z4.is)
  have HM5 := Lib.hid (H4.out.1.keep z4.is)
  clear a0 a10 a13 a15 a16 a24 a25 az
  have HB5 := Lib.hid (H3.out.keep HXz.out)
  have HR5 := Lib.hid (HR3.out.keep HXz.out)
  have HT5 := Lib.hid (HT3.out.keep HXz.out)
  have HA5 := Lib.hid (HA3.out.keep HXz.out)
  have HL5 := Lib.hid (HL3.out.keep HXz.out)
  have HX5 := Lib.hid (etr HX3.out HXz.out)
  go_wp2_with (first | (refine wp_ldN 31 [.int .i64 c.peer, .int .i64 c.out, .int .i64 c.inn, .int .i64 c.heard] rfl rfl rfl (HB5.out).cells Tryd.underlying31 szSes rfl ?_) | (refine wp_ldN 39 [.int .i64 1, .int .i64 c.T.id, .int .i64 0, .int .i64 0, .int .i64 0, .int .i64 0, .int .i64 0, .slice none 0 0, .slice none 0 0, .int .i64 c.E.min, .int .i64 c.E.speed, .int .i64 c.mode, .int .i64 c.seq, .bool wb] rfl rfl rfl (HM5.out).cells Tryd.underlying39 szMsg rfl ?_))
  refine (HSC.out _).mono ?_
  rintro e w6 ⟨rfl, hb⟩
  have HB6 := Lib.hid (HB5.out.keep hb)
  have HM6 := Lib.hid (HM5.out.keep hb)
  have HR6 := Lib.hid (HR5.out.keep hb)
  have HT6 := Lib.hid (HT5.out.keep hb)
  have HA6 := Lib.hid (HA5.out.keep hb)
  have HL6 := Lib.hid (HL5.out.keep hb)
  have HX6 := Lib.hid (etr HX5.out hb)
  clear hb
  have zb := HB.out.1
  go_upto_region 4 with (first | (refine wp_stN 31 [.int .i64 c.T.id, .string c.T.name, .int .i64 c.T.len, .int .i64 c.T.speed, .int .i64 c.T.accel, .int .i64 c.T.service, .int .i64 c.T.emergency, .int .i64 c.T.delay, .int .i64 c.T.cons, .int .i64 c.T.rate, .int .i64 c.mode, .int .i64 c.brake, .int .i64 c.next, .int .i64 c.E.min, .int .i64 c.E.max, .int .i64 c.E.speed, .int .i64 c.seq, .int .i64 c.en, .slice A1 c.p.length c1, .slice L1 c.k.length d1, .int .i64 c.peer, .int .i64 ov, .int .i64 c.inn, .int .i64 c.heard, .bool c.known, .int .i64 c.since] [.int .i64 c.peer, .int .i64 ov, .int .i64 c.inn, .int .i64 c.heard] rfl rfl rfl (HB6.out) rfl szSes rfl (by show (20 + 4 : Nat) ≤ 26; decide) rfl ?_; intro w7 H7) | (refine wp_stN 39 [.int .i64 1, .int .i64 c.T.id, .int .i64 c.peer, .int .i64 ov, .int .i64 now, .int .i64 0, .int .i64 0, .slice none 0 0, .slice none 0 0, .int .i64 c.E.min, .int .i64 c.E.speed, .int .i64 c.mode, .int .i64 c.seq, .bool wb] [.int .i64 1, .int .i64 c.T.id, .int .i64 c.peer, .int .i64 ov, .int .i64 now, .int .i64 0, .int .i64 0, .slice none 0 0, .slice none 0 0, .int .i64 c.E.min, .int .i64 c.E.speed, .int .i64 c.mode, .int .i64 c.seq, .bool wb] rfl rfl rfl (HM6.out.only H7.out.2 (by omega)) rfl szMsg rfl (by show (0 + 14 : Nat) ≤ 14; decide) rfl ?_; intro w8 H8))
  refine wp_region_orders 4 rfl (by kernel_rfl) (fun wd hwd => ?_)
  have HL1 := Lib.hid ((H7.out.1.only H8.out.2 (by omega)).keep hwd)
  have HL2 := Lib.hid (H8.out.1.keep hwd)
  have HS1 := Lib.hid (((HR6.out.only H7.out.2 (by omega)).only H8.out.2 (by omega)).keep hwd)
  have HS2 := Lib.hid (((HT6.out.only H7.out.2 (by omega)).only H8.out.2 (by omega)).keep hwd)
  have sbm : w3.heap.size ≤ x.val.heap.size := sx
  have HAd := Lib.hid ((RdN.past HA3.out (HA6.out.only H7.out.2 (by omega)) H8.out.2 sbm).keep hwd)
  have HLd := Lib.hid ((RdN.past HL3.out (HL6.out.only H7.out.2 (by omega)) H8.out.2 sbm).keep hwd)
  have HXd := Lib.hid (etr (eonly (eonly HX6.out H7.out.2 (Nat.le_refl _)) H8.out.2 (by have := HX3.out.size; omega)) hwd)
  refine wpAny_go (rs := [0, 1]) (by kernel_rfl) (by simp) (AllO.cons rfl rfl (fun K hK => ?_) (AllO.cons rfl rfl (fun K hK => ?_) AllO.nil))
  · refine wpo_ldN 35 [.int .i64 c.T.id, .string c.T.name, .int .i64 c.T.len, .int .i64 c.T.speed, .int .i64 c.T.accel, .int .i64 c.T.service, .int .i64 c.T.emergency, .int .i64 c.T.delay, .int .i64 c.T.cons, .int .i64 c.T.rate, .int .i64 c.mode, .int .i64 c.brake, .int .i64 c.next, .int .i64 c.E.min, .int .i64 c.E.max, .int .i64 c.E.speed, .int .i64 c.seq, .int .i64 c.en, .slice A1 c.p.length c1, .slice L1 c.k.length d1, .int .i64 c.peer, .int .i64 ov, .int .i64 c.inn, .int .i64 c.heard, .bool c.known, .int .i64 c.since] rfl rfl (HL1.out).cells Tryd.underlying35 szCab rfl ?_
    refine hK _ _ ?_; clear hK K
    refine wpAny_go (rs := [1, 2]) (by kernel_rfl) (by simp) (AllO.cons rfl rfl (fun K hK => ?_) (AllO.cons rfl rfl (fun K hK => ?_) AllO.nil))
    · refine wpo_ldN 39 [.int .i64 1, .int .i64 c.T.id, .int .i64 c.peer, .int .i64 ov, .int .i64 now, .int .i64 0, .int .i64 0, .slice none 0 0, .slice none 0 0, .int .i64 c.E.min, .int .i64 c.E.speed, .int .i64 c.mode, .int .i64 c.seq, .bool wb] rfl rfl (HL2.out).cells Tryd.underlying39 szMsg rfl ?_
      refine hK _ _ ?_; clear hK K
      refine wpAny_go (rs := [2]) (by kernel_rfl) (by simp) (AllO.cons rfl rfl (fun K hK => ?_) AllO.nil)
      refine wpo_stN 35 [.int .i64 c.T.id, .string c.T.name, .int .i64 c.T.len, .int .i64 c.T.speed, .int .i64 c.T.accel, .int .i64 c.T.service, .int .i64 c.T.emergency, .int .i64 c.T.delay, .int .i64 c.T.cons, .int .i64 c.T.rate, .int .i64 c.mode, .int .i64 c.brake, .int .i64 c.next, .int .i64 c.E.min, .int .i64 c.E.max, .int .i64 c.E.speed, .int .i64 c.seq, .int .i64 c.en, .slice A1 c.p.length c1, .slice L1 c.k.length d1, .int .i64 c.peer, .int .i64 ov, .int .i64 c.inn, .int .i64 c.heard, .bool c.known, .int .i64 c.since] [.int .i64 c.T.id, .string c.T.name, .int .i64 c.T.len, .int .i64 c.T.speed, .int .i64 c.T.accel, .int .i64 c.T.service, .int .i64 c.T.emergency, .int .i64 c.T.delay, .int .i64 c.T.cons, .int .i64 c.T.rate, .int .i64 c.mode, .int .i64 c.brake, .int .i64 c.next, .int .i64 c.E.min, .int .i64 c.E.max, .int .i64 c.E.speed, .int .i64 c.seq, .int .i64 c.en, .slice A1 c.p.length c1, .slice L1 c.k.length d1, .int .i64 c.peer, .int .i64 ov, .int .i64 c.inn, .int .i64 c.heard, .bool c.known, .int .i64 c.since] rfl rfl (HS1.out) rfl szCab rfl (by show (0 + 26 : Nat) ≤ 26; decide) rfl ?_; intro wA HA
      refine hK _ _ ?_; clear hK K
      refine wpAny_go (rs := [3]) (by kernel_rfl) (by simp) (AllO.cons rfl rfl (fun K hK => ?_) AllO.nil)
      refine wpo_stN 39 [.int .i64 1, .int .i64 c.T.id, .int .i64 c.peer, .int .i64 ov, .int .i64 now, .int .i64 0, .int .i64 0, .slice none 0 0, .slice none 0 0, .int .i64 c.E.min, .int .i64 c.E.speed, .int .i64 c.mode, .int .i64 c.seq, .bool wb] [.int .i64 1, .int .i64 c.T.id, .int .i64 c.peer, .int .i64 ov, .int .i64 now, .int .i64 0, .int .i64 0, .slice none 0 0, .slice none 0 0, .int .i64 c.E.min, .int .i64 c.E.speed, .int .i64 c.mode, .int .i64 c.seq, .bool wb] rfl rfl (HS2.out.only HA.out.2 (by omega)) rfl szMsg rfl (by show (0 + 14 : Nat) ≤ 14; decide) rfl ?_; intro wB HB
      refine hK _ _ ?_; clear hK K
      refine wpAny_end (by kernel_rfl) ?_
      go_wp2
      refine bodyPost_ret (res_cc (by rfl) (by rfl) (by rfl) (HA.out.1.only HB.out.2 (by omega)).cells Tryd.underlying35 szCab HB.out.1.cells Tryd.underlying39 szMsg) rfl ?_
      rw [HOV.out, HWB.out]
      exact ⟨A1, c1, L1, d1, rfl, ((HAd.out.only HA.out.2 (by omega)).only HB.out.2 (by omega)).mono (by omega), ((HLd.out.only HA.out.2 (by omega)).only HB.out.2 (by omega)).mono (by omega), eonly (eonly HXd.out HA.out.2 (by omega)) HB.out.2 (by omega)⟩
    · refine wpo_stN 35 [.int .i64 c.T.id, .string c.T.name, .int .i64 c.T.len, .int .i64 c.T.speed, .int .i64 c.T.accel, .int .i64 c.T.service, .int .i64 c.T.emergency, .int .i64 c.T.delay, .int .i64 c.T.cons, .int .i64 c.T.rate, .int .i64 c.mode, .int .i64 c.brake, .int .i64 c.next, .int .i64 c.E.min, .int .i64 c.E.max, .int .i64 c.E.speed, .int .i64 c.seq, .int .i64 c.en, .slice A1 c.p.length c1, .slice L1 c.k.length d1, .int .i64 c.peer, .int .i64 ov, .int .i64 c.inn, .int .i64 c.heard, .bool c.known, .int .i64 c.since] [.int .i64 c.T.id, .string c.T.name, .int .i64 c.T.len, .int .i64 c.T.speed, .int .i64 c.T.accel, .int .i64 c.T.service, .int .i64 c.T.emergency, .int .i64 c.T.delay, .int .i64 c.T.cons, .int .i64 c.T.rate, .int .i64 c.mode, .int .i64 c.brake, .int .i64 c.next, .int .i64 c.E.min, .int .i64 c.E.max, .int .i64 c.E.speed, .int .i64 c.seq, .int .i64 c.en, .slice A1 c.p.length c1, .slice L1 c.k.length d1, .int .i64 c.peer, .int .i64 ov, .int .i64 c.inn, .int .i64 c.heard, .bool c.known, .int .i64 c.since] rfl rfl (HS1.out) rfl szCab rfl (by show (0 + 26 : Nat) ≤ 26; decide) rfl ?_; intro wA HA
      refine hK _ _ ?_; clear hK K
      refine wpAny_go (rs := [1]) (by kernel_rfl) (by simp) (AllO.cons rfl rfl (fun K hK => ?_) AllO.nil)
      refine wpo_ldN 39 [.int .i64 1, .int .i64 c.T.id, .int .i64 c.peer, .int .i64 ov, .int .i64 now, .int .i64 0, .int .i64 0, .slice none 0 0, .slice none 0 0, .int .i64 c.E.min, .int .i64 c.E.speed, .int .i64 c.mode, .int .i64 c.seq, .bool wb] rfl rfl (HL2.out.only HA.out.2 (by omega)).cells Tryd.underlying39 szMsg rfl ?_
      refine hK _ _ ?_; clear hK K
      refine wpAny_go (rs := [3]) (by kernel_rfl) (by simp) (AllO.cons rfl rfl (fun K hK => ?_) AllO.nil)
      refine wpo_stN 39 [.int .i64 1, .int .i64 c.T.id, .int .i64 c.peer, .int .i64 ov, .int .i64 now, .int .i64 0, .int .i64 0, .slice none 0 0, .slice none 0 0, .int .i64 c.E.min, .int .i64 c.E.speed, .int .i64 c.mode, .int .i64 c.seq, .bool wb] [.int .i64 1, .int .i64 c.T.id, .int .i64 c.peer, .int .i64 ov, .int .i64 now, .int .i64 0, .int .i64 0, .slice none 0 0, .slice none 0 0, .int .i64 c.E.min, .int .i64 c.E.speed, .int .i64 c.mode, .int .i64 c.seq, .bool wb] rfl rfl (HS2.out.only HA.out.2 (by omega)) rfl szMsg rfl (by show (0 + 14 : Nat) ≤ 14; decide) rfl ?_; intro wB HB
      refine hK _ _ ?_; clear hK K
      refine wpAny_end (by kernel_rfl) ?_
      go_wp2
      refine bodyPost_ret (res_cc (by rfl) (by rfl) (by rfl) (HA.out.1.only HB.out.2 (by omega)).cells Tryd.underlying35 szCab HB.out.1.cells Tryd.underlying39 szMsg) rfl ?_
      rw [HOV.out, HWB.out]
      exact ⟨A1, c1, L1, d1, rfl, ((HAd.out.only HA.out.2 (by omega)).only HB.out.2 (by omega)).mono (by omega), ((HLd.out.only HA.out.2 (by omega)).only HB.out.2 (by omega)).mono (by omega), eonly (eonly HXd.out HA.out.2 (by omega)) HB.out.2 (by omega)⟩
  · refine wpo_ldN 39 [.int .i64 1, .int .i64 c.T.id, .int .i64 c.peer, .int .i64 ov, .int .i64 now, .int .i64 0, .int .i64 0, .slice none 0 0, .slice none 0 0, .int .i64 c.E.min, .int .i64 c.E.speed, .int .i64 c.mode, .int .i64 c.seq, .bool wb] rfl rfl (HL2.out).cells Tryd.underlying39 szMsg rfl ?_
    refine hK _ _ ?_; clear hK K
    refine wpAny_go (rs := [0]) (by kernel_rfl) (by simp) (AllO.cons rfl rfl (fun K hK => ?_) AllO.nil)
    refine wpo_ldN 35 [.int .i64 c.T.id, .string c.T.name, .int .i64 c.T.len, .int .i64 c.T.speed, .int .i64 c.T.accel, .int .i64 c.T.service, .int .i64 c.T.emergency, .int .i64 c.T.delay, .int .i64 c.T.cons, .int .i64 c.T.rate, .int .i64 c.mode, .int .i64 c.brake, .int .i64 c.next, .int .i64 c.E.min, .int .i64 c.E.max, .int .i64 c.E.speed, .int .i64 c.seq, .int .i64 c.en, .slice A1 c.p.length c1, .slice L1 c.k.length d1, .int .i64 c.peer, .int .i64 ov, .int .i64 c.inn, .int .i64 c.heard, .bool c.known, .int .i64 c.since] rfl rfl (HL1.out).cells Tryd.underlying35 szCab rfl ?_
    refine hK _ _ ?_; clear hK K
    refine wpAny_go (rs := [2]) (by kernel_rfl) (by simp) (AllO.cons rfl rfl (fun K hK => ?_) AllO.nil)
    refine wpo_stN 35 [.int .i64 c.T.id, .string c.T.name, .int .i64 c.T.len, .int .i64 c.T.speed, .int .i64 c.T.accel, .int .i64 c.T.service, .int .i64 c.T.emergency, .int .i64 c.T.delay, .int .i64 c.T.cons, .int .i64 c.T.rate, .int .i64 c.mode, .int .i64 c.brake, .int .i64 c.next, .int .i64 c.E.min, .int .i64 c.E.max, .int .i64 c.E.speed, .int .i64 c.seq, .int .i64 c.en, .slice A1 c.p.length c1, .slice L1 c.k.length d1, .int .i64 c.peer, .int .i64 ov, .int .i64 c.inn, .int .i64 c.heard, .bool c.known, .int .i64 c.since] [.int .i64 c.T.id, .string c.T.name, .int .i64 c.T.len, .int .i64 c.T.speed, .int .i64 c.T.accel, .int .i64 c.T.service, .int .i64 c.T.emergency, .int .i64 c.T.delay, .int .i64 c.T.cons, .int .i64 c.T.rate, .int .i64 c.mode, .int .i64 c.brake, .int .i64 c.next, .int .i64 c.E.min, .int .i64 c.E.max, .int .i64 c.E.speed, .int .i64 c.seq, .int .i64 c.en, .slice A1 c.p.length c1, .slice L1 c.k.length d1, .int .i64 c.peer, .int .i64 ov, .int .i64 c.inn, .int .i64 c.heard, .bool c.known, .int .i64 c.since] rfl rfl (HS1.out) rfl szCab rfl (by show (0 + 26 : Nat) ≤ 26; decide) rfl ?_; intro wA HA
    refine hK _ _ ?_; clear hK K
    refine wpAny_go (rs := [3]) (by kernel_rfl) (by simp) (AllO.cons rfl rfl (fun K hK => ?_) AllO.nil)
    refine wpo_stN 39 [.int .i64 1, .int .i64 c.T.id, .int .i64 c.peer, .int .i64 ov, .int .i64 now, .int .i64 0, .int .i64 0, .slice none 0 0, .slice none 0 0, .int .i64 c.E.min, .int .i64 c.E.speed, .int .i64 c.mode, .int .i64 c.seq, .bool wb] [.int .i64 1, .int .i64 c.T.id, .int .i64 c.peer, .int .i64 ov, .int .i64 now, .int .i64 0, .int .i64 0, .slice none 0 0, .slice none 0 0, .int .i64 c.E.min, .int .i64 c.E.speed, .int .i64 c.mode, .int .i64 c.seq, .bool wb] rfl rfl (HS2.out.only HA.out.2 (by omega)) rfl szMsg rfl (by show (0 + 14 : Nat) ≤ 14; decide) rfl ?_; intro wB HB
    refine hK _ _ ?_; clear hK K
    refine wpAny_end (by kernel_rfl) ?_
    go_wp2
    refine bodyPost_ret (res_cc (by rfl) (by rfl) (by rfl) (HA.out.1.only HB.out.2 (by omega)).cells Tryd.underlying35 szCab HB.out.1.cells Tryd.underlying39 szMsg) rfl ?_
    rw [HOV.out, HWB.out]
    exact ⟨A1, c1, L1, d1, rfl, ((HAd.out.only HA.out.2 (by omega)).only HB.out.2 (by omega)).mono (by omega), ((HLd.out.only HA.out.2 (by omega)).only HB.out.2 (by omega)).mono (by omega), eonly (eonly HXd.out HA.out.2 (by omega)) HB.out.2 (by omega)⟩
set_option maxHeartbeats 16000000 in
theorem rreport_any (c : Cb) (A L : Option Addr) (ca cl : Nat) (now : Int) (w : World) (hp : c.p.length ≤ 1000000) (hk : c.k.length ≤ 1000000) (hr : Rd w A 4 Sgc c.p) (hr2 : Rd w L 2 Lkc c.k) (io : I64 c.out) (is : I64 c.since) (inw : I64 now) : Calls Tryd.prog 23 #[.agg #[.int .i64 c.T.id, .string c.T.name, .int .i64 c.T.len, .int .i64 c.T.speed, .int .i64 c.T.accel, .int .i64 c.T.service, .int .i64 c.T.emergency, .int .i64 c.T.delay, .int .i64 c.T.cons, .int .i64 c.T.rate, .int .i64 c.mode, .int .i64 c.brake, .int .i64 c.next, .int .i64 c.E.min, .int .i64 c.E.max, .int .i64 c.E.speed, .int .i64 c.seq, .int .i64 c.en, .slice A c.p.length ca, .slice L c.k.length cl, .int .i64 c.peer, .int .i64 c.out, .int .i64 c.inn, .int .i64 c.heard, .bool c.known, .int .i64 c.since], .int .i64 now] w fun e w' =>
    ∃ A' ca' L' cl', e = .returned (.tuple #[.agg #[.int .i64 (repC c).T.id, .string (repC c).T.name, .int .i64 (repC c).T.len, .int .i64 (repC c).T.speed, .int .i64 (repC c).T.accel, .int .i64 (repC c).T.service, .int .i64 (repC c).T.emergency, .int .i64 (repC c).T.delay, .int .i64 (repC c).T.cons, .int .i64 (repC c).T.rate, .int .i64 (repC c).mode, .int .i64 (repC c).brake, .int .i64 (repC c).next, .int .i64 (repC c).E.min, .int .i64 (repC c).E.max, .int .i64 (repC c).E.speed, .int .i64 (repC c).seq, .int .i64 (repC c).en, .slice A' (repC c).p.length ca', .slice L' (repC c).k.length cl', .int .i64 (repC c).peer, .int .i64 (repC c).out, .int .i64 (repC c).inn, .int .i64 (repC c).heard, .bool (repC c).known, .int .i64 (repC c).since], .agg #[.int .i64 (repM c now).kind, .int .i64 (repM c now).frm, .int .i64 (repM c now).to_, .int .i64 (repM c now).seq, .int .i64 (repM c now).time, .int .i64 (repM c now).aseq, .int .i64 (repM c now).aen, .slice none (repM c now).p.length 0, .slice none (repM c now).k.length 0, .int .i64 (repM c now).rmin, .int .i64 (repM c now).rspeed, .int .i64 (repM c now).rmode, .int .i64 (repM c now).racc, .bool (repM c now).rwhole]]) ∧ Rd w' A' 4 Sgc c.p ∧ Rd w' L' 2 Lkc c.k ∧ Below w.heap.size w w' := by
  have HP := Lib.hid hr
  have HK := Lib.hid hr2
  obtain ⟨ov, hov⟩ : ∃ v, v = outV c := ⟨_, rfl⟩
  obtain ⟨wb, hwb⟩ : ∃ v, v = whoB c now := ⟨_, rfl⟩
  have HOV := Lib.hid hov
  have HWB := Lib.hid hwb
  have HWC : Hid (∀ x, Calls Tryd.prog 53 #[.agg #[.bool c.known, .int .i64 c.since], .int .i64 now] x fun e w' => e = .returned (.bool wb) ∧ Below x.heap.size x w') := fun x => by rw [hwb]; exact riwhole_any _ _ _ x is inw
  have HSC : Hid (∀ x, Calls Tryd.prog 54 #[.agg #[.int .i64 c.peer, .int .i64 c.out, .int .i64 c.inn, .int .i64 c.heard], .agg #[.int .i64 1, .int .i64 c.T.id, .int .i64 0, .int .i64 0, .int .i64 0, .int .i64 0, .int .i64 0, .slice none 0 0, .slice none 0 0, .int .i64 c.E.min, .int .i64 c.E.speed, .int .i64 c.mode, .int .i64 c.seq, .bool wb], .int .i64 now] x fun e w' => e = .returned (.tuple #[.agg #[.int .i64 c.peer, .int .i64 ov, .int .i64 c.inn, .int .i64 c.heard], .agg #[.int .i64 1, .int .i64 c.T.id, .int .i64 c.peer, .int .i64 ov, .int .i64 now, .int .i64 0, .int .i64 0, .slice none 0 0, .slice none 0 0, .int .i64 c.E.min, .int .i64 c.E.speed, .int .i64 c.mode, .int .i64 c.seq, .bool wb]]) ∧ Below x.heap.size x w') := fun x => by rw [hov]; exact rsend_any _ _ _ _ _ _ _ _ _ _ _ _ _ _ _ _ _ x io
  clear hr hr2 hov hwb
  obtain ⟨w1, hw⟩ : ∃ w1, w1 = (((w.alloc (.cells #[.int .i64 c.T.id, .string c.T.name, .int .i64 c.T.len, .int .i64 c.T.speed, .int .i64 c.T.accel, .int .i64 c.T.service, .int .i64 c.T.emergency, .int .i64 c.T.delay, .int .i64 c.T.cons, .int .i64 c.T.rate, .int .i64 c.mode, .int .i64 c.brake, .int .i64 c.next, .int .i64 c.E.min, .int .i64 c.E.max, .int .i64 c.E.speed, .int .i64 c.seq, .int .i64 c.en, .slice A c.p.length ca, .slice L c.k.length cl, .int .i64 c.peer, .int .i64 c.out, .int .i64 c.inn, .int .i64 c.heard, .bool c.known, .int .i64 c.since] 35)).alloc (.cells #[.int .i64 0, .string ⟨#[]⟩, .int .i64 0, .int .i64 0, .int .i64 0, .int .i64 0, .int .i64 0, .int .i64 0, .int .i64 0, .int .i64 0, .int .i64 0, .int .i64 0, .int .i64 0, .int .i64 0, .int .i64 0, .int .i64 0, .int .i64 0, .int .i64 0, .slice none 0 0, .slice none 0 0, .int .i64 0, .int .i64 0, .int .i64 0, .int .i64 0, .bool false, .int .i64 0] 35)).alloc (.cells #[.int .i64 0, .int .i64 0, .int .i64 0, .int .i64 0, .int .i64 0, .int .i64 0, .int .i64 0, .slice none 0 0, .slice none 0 0, .int .i64 0, .int .i64 0, .int .i64 0, .int .i64 0, .bool false] 39)) := ⟨_, rfl⟩
  have HE0 : Hid (Ext w w1) := by rw [hw]; exact eal (eal (eal (Ext.refl w) _) _) _
  have HB : Hid (Own w1 (w.heap.size) [.int .i64 c.T.id, .string c.T.name, .int .i64 c.T.len, .int .i64 c.T.speed, .int .i64 c.T.accel, .int .i64 c.T.service, .int .i64 c.T.emergency, .int .i64 c.T.delay, .int .i64 c.T.cons, .int .i64 c.T.rate, .int .i64 c.mode, .int .i64 c.brake, .int .i64 c.next, .int .i64 c.E.min, .int .i64 c.E.max, .int .i64 c.E.speed, .int .i64 c.seq, .int .i64 c.en, .slice A c.p.length ca, .slice L c.k.length cl, .int .i64 c.peer, .int .i64 c.out, .int .i64 c.inn, .int .i64 c.heard, .bool c.known, .int .i64 c.since]) := by rw [hw]; exact ((Own.new (w := w) (cs := #[.int .i64 c.T.id, .string c.T.name, .int .i64 c.T.len, .int .i64 c.T.speed, .int .i64 c.T.accel, .int .i64 c.T.service, .int .i64 c.T.emergency, .int .i64 c.T.delay, .int .i64 c.T.cons, .int .i64 c.T.rate, .int .i64 c.mode, .int .i64 c.brake, .int .i64 c.next, .int .i64 c.E.min, .int .i64 c.E.max, .int .i64 c.E.speed, .int .i64 c.seq, .int .i64 c.en, .slice A c.p.length ca, .slice L c.k.length cl, .int .i64 c.peer, .int .i64 c.out, .int .i64 c.inn, .int .i64 c.heard, .bool c.known, .int .i64 c.since]) (t := 35) (by simp)).alloc _).alloc _
  have HR : Hid (Own w1 (w.heap.size + 1) [.int .i64 0, .string ⟨#[]⟩, .int .i64 0, .int .i64 0, .int .i64 0, .int .i64 0, .int .i64 0, .int .i64 0, .int .i64 0, .int .i64 0, .int .i64 0, .int .i64 0, .int .i64 0, .int .i64 0, .int .i64 0, .int .i64 0, .int .i64 0, .int .i64 0, .slice none 0 0, .slice none 0 0, .int .i64 0, .int .i64 0, .int .i64 0, .int .i64 0, .bool false, .int .i64 0]) := by rw [hw]; exact (Own.new (w := (w.alloc (.cells #[.int .i64 c.T.id, .string c.T.name, .int .i64 c.T.len, .int .i64 c.T.speed, .int .i64 c.T.accel, .int .i64 c.T.service, .int .i64 c.T.emergency, .int .i64 c.T.delay, .int .i64 c.T.cons, .int .i64 c.T.rate, .int .i64 c.mode, .int .i64 c.brake, .int .i64 c.next, .int .i64 c.E.min, .int .i64 c.E.max, .int .i64 c.E.speed, .int .i64 c.seq, .int .i64 c.en, .slice A c.p.length ca, .slice L c.k.length cl, .int .i64 c.peer, .int .i64 c.out, .int .i64 c.inn, .int .i64 c.heard, .bool c.known, .int .i64 c.since] 35))) (cs := #[.int .i64 0, .string ⟨#[]⟩, .int .i64 0, .int .i64 0, .int .i64 0, .int .i64 0, .int .i64 0, .int .i64 0, .int .i64 0, .int .i64 0, .int .i64 0, .int .i64 0, .int .i64 0, .int .i64 0, .int .i64 0, .int .i64 0, .int .i64 0, .int .i64 0, .slice none 0 0, .slice none 0 0, .int .i64 0, .int .i64 0, .int .i64 0, .int .i64 0, .bool false, .int .i64 0]) (t := 35) (by simp)).alloc _
  have HT : Hid (Own w1 (w.heap.size + 1 + 1) [.int .i64 0, .int .i64 0, .int .i64 0, .int .i64 0, .int .i64 0, .int .i64 0, .int .i64 0, .slice none 0 0, .slice none 0 0, .int .i64 0, .int .i64 0, .int .i64 0, .int .i64 0, .bool false]) := by rw [hw]; exact Own.new (w := ((w.alloc (.cells #[.int .i64 c.T.id, .string c.T.name, .int .i64 c.T.len, .int .i64 c.T.speed, .int .i64 c.T.accel, .int .i64 c.T.service, .int .i64 c.T.emergency, .int .i64 c.T.delay, .int .i64 c.T.cons, .int .i64 c.T.rate, .int .i64 c.mode, .int .i64 c.brake, .int .i64 c.next, .int .i64 c.E.min, .int .i64 c.E.max, .int .i64 c.E.speed, .int .i64 c.seq, .int .i64 c.en, .slice A c.p.length ca, .slice L c.k.length cl, .int .i64 c.peer, .int .i64 c.out, .int .i64 c.inn, .int .i64 c.heard, .bool c.known, .int .i64 c.since] 35)).alloc (.cells #[.int .i64 0, .string ⟨#[]⟩, .int .i64 0, .int .i64 0, .int .i64 0, .int .i64 0, .int .i64 0, .int .i64 0, .int .i64 0, .int .i64 0, .int .i64 0, .int .i64 0, .int .i64 0, .int .i64 0, .int .i64 0, .int .i64 0, .int .i64 0, .int .i64 0, .slice none 0 0, .slice none 0 0, .int .i64 0, .int .i64 0, .int .i64 0, .int .i64 0, .bool false, .int .i64 0] 35))) (cs := #[.int .i64 0, .int .i64 0, .int .i64 0, .int .i64 0, .int .i64 0, .int .i64 0, .int .i64 0, .slice none 0 0, .slice none 0 0, .int .i64 0, .int .i64 0, .int .i64 0, .int .i64 0, .bool false]) (t := 39) (by simp)
  go_enter Tryd.func23, Tryd.ntmps23
  go_upto_region 1 with (fail)
  rw [← hw]
  clear hw
  have a0 := HB.out.cells.2 0 _ rfl
  have a10 := HB.out.cells.2 10 _ rfl
  have a13 := HB.out.cells.2 13 _ rfl
  have a15 := HB.out.cells.2 15 _ rfl
  have a16 := HB.out.cells.2 16 _ rfl
  have a24 := HB.out.cells.2 24 _ rfl
  have a25 := HB.out.cells.2 25 _ rfl
  have az := HB.out.cells.1
  refine wp_region_monoB [0, 1, 2, 3, 4, 5, 6, 7, 8, 9, 10, 11, 12, 13, 14, 15] 2 (by kernel_rfl) (by kernel_rfl) (fun _ _ d _ _ h => by cases d <;> exact h) (by kernel_rfl) (by kernel_rfl) ?_
  repeat (refine wpE_step rfl (fun K hK => ?_); go_simp; (first
    | (refine hK _ ?_; clear hK K)
    | (apply Exists.intro
       refine ⟨fun x => ?_, hK _ ?_⟩
       (go_at_call 53; exact HWC.out _)
       clear hK K)))
  refine wpE_nil ?_
  intro x
  refine wpAnyB_ready (rs := [16]) (by kernel_rfl) (by simp) (AllB.cons rfl (fun K hK => ?_) AllB.nil)
  go_simp
  refine hK _ _ (ext_below (eal (Ext.refl _) _) (esz x.is)) (fun z => ?_)
  clear hK K
  have Oz := Lib.hid ((Own.new (w := x.val) (cs := #[.int .i64 0, .int .i64 0, .int .i64 0, .int .i64 0, .bool false]) (t := 37) rfl).keep z.is)
  have sx := x.is.size
  refine wpAnyB_ready (rs := [17]) (by kernel_rfl) (by simp) (AllB.cons rfl (fun K hK => ?_) AllB.nil)
  rw [if_pos (by rfl)]
  refine wpo_stN 37 [.int .i64 c.E.min, .int .i64 c.E.speed, .int .i64 c.mode, .int .i64 c.seq, .bool wb] [.int .i64 c.E.min, .int .i64 c.E.speed, .int .i64 c.mode, .int .i64 c.seq, .bool wb] rfl rfl (Oz.out) rfl szRep rfl (by show (0 + 5 : Nat) ≤ 5; decide) rfl ?_; intro w4 H4
  refine hK _ _ (Below.only (Below.refl _ _) H4.out.2 sx) (fun z4 => ?_)
  clear hK K
  refine wpAnyB_done (by kernel_rfl) ?_ _
  have HXz := Lib.hid (etr (eonly (etr (eal x.is _) z.is) H4.out.2 sx) z4.is)
  have HM5 := Lib.hid (H4.out.1.keep z4.is)
  clear a0 a10 a13 a15 a16 a24 a25 az
  have z1 := HR.out.1
  have z2 := HT.out.1
  have zb := HB.out.1
  have HB5 := Lib.hid (HB.out.keep HXz.out)
  have HR5 := Lib.hid (HR.out.keep HXz.out)
  have HT5 := Lib.hid (HT.out.keep HXz.out)
  have HX5 := Lib.hid (etr HE0.out HXz.out)
  have a0 := HB5.out.cells.2 0 _ rfl
  have az := HB5.out.cells.1
  go_wp2_with (first | (refine wp_ldN 31 [.int .i64 c.peer, .int .i64 c.out, .int .i64 c.inn, .int .i64 c.heard] rfl rfl rfl (HB5.out).cells Tryd.underlying31 szSes rfl ?_) | (refine wp_ldN 37 [.int .i64 c.E.min, .int .i64 c.E.speed, .int .i64 c.mode, .int .i64 c.seq, .bool wb] rfl rfl rfl (HM5.out).cells Tryd.underlying37 szRep rfl ?_))
  refine (HSC.out _).mono ?_
  rintro e w6 ⟨rfl, hb⟩
  clear a0 az
  have HB6 := Lib.hid (HB5.out.keep hb)
  have HR6 := Lib.hid (HR5.out.keep hb)
  have HT6 := Lib.hid (HT5.out.keep hb)
  have HX6 := Lib.hid (etr HX5.out hb)
  clear hb
  have s6 := HB6.out.1
  have s7 := HR6.out.1
  have s8 := HT6.out.1
  obtain ⟨w7, hw7⟩ : ∃ w7, w7 = ((w6.alloc (.cells #[.int .i64 0, .int .i64 0, .int .i64 0, .int .i64 0] 31)).alloc (.cells #[.int .i64 0, .int .i64 0, .int .i64 0, .int .i64 0, .int .i64 0, .int .i64 0, .int .i64 0, .slice none 0 0, .slice none 0 0, .int .i64 0, .int .i64 0, .int .i64 0, .int .i64 0, .bool false] 39)) := ⟨_, rfl⟩
  have HE6 : Hid (Ext w6 w7) := by rw [hw7]; exact eal (eal (Ext.refl w6) _) _
  have HS : Hid (Own w7 (w6.heap.size) [.int .i64 0, .int .i64 0, .int .i64 0, .int .i64 0]) := by rw [hw7]; exact (Own.new (w := w6) (cs := #[.int .i64 0, .int .i64 0, .int .i64 0, .int .i64 0]) (t := 31) (by simp)).alloc _
  have HM : Hid (Own w7 (w6.heap.size + 1) [.int .i64 0, .int .i64 0, .int .i64 0, .int .i64 0, .int .i64 0, .int .i64 0, .int .i64 0, .slice none 0 0, .slice none 0 0, .int .i64 0, .int .i64 0, .int .i64 0, .int .i64 0, .bool false]) := by rw [hw7]; exact Own.new (w := (w6.alloc (.cells #[.int .i64 0, .int .i64 0, .int .i64 0, .int .i64 0] 31))) (cs := #[.int .i64 0, .int .i64 0, .int .i64 0, .int .i64 0, .int .i64 0, .int .i64 0, .int .i64 0, .slice none 0 0, .slice none 0 0, .int .i64 0, .int .i64 0, .int .i64 0, .int .i64 0, .bool false]) (t := 39) (by simp)
  have HOS := HS
  have HOM := HM
  go_upto_region 3 with (first | (rw [← hw7]; refine wp_stN 31 [.int .i64 c.peer, .int .i64 ov, .int .i64 c.inn, .int .i64 c.heard] [.int .i64 c.peer, .int .i64 ov, .int .i64 c.inn, .int .i64 c.heard] rfl rfl rfl (HOS.out) rfl szSes rfl (by show (0 + 4 : Nat) ≤ 4; decide) rfl ?_; intro w8 H8) | (refine wp_stN 39 [.int .i64 1, .int .i64 c.T.id, .int .i64 c.peer, .int .i64 ov, .int .i64 now, .int .i64 0, .int .i64 0, .slice none 0 0, .slice none 0 0, .int .i64 c.E.min, .int .i64 c.E.speed, .int .i64 c.mode, .int .i64 c.seq, .bool wb] [.int .i64 1, .int .i64 c.T.id, .int .i64 c.peer, .int .i64 ov, .int .i64 now, .int .i64 0, .int .i64 0, .slice none 0 0, .slice none 0 0, .int .i64 c.E.min, .int .i64 c.E.speed, .int .i64 c.mode, .int .i64 c.seq, .bool wb] rfl rfl rfl (HOM.out.only H8.out.2 (by omega)) rfl szMsg rfl (by show (0 + 14 : Nat) ≤ 14; decide) rfl ?_; intro w9 H9))
  clear hw7
  have HB9 := Lib.hid (((HB6.out.keep HE6.out).only H8.out.2 (by omega)).only H9.out.2 (by omega))
  have HR9 := Lib.hid (((HR6.out.keep HE6.out).only H8.out.2 (by omega)).only H9.out.2 (by omega))
  have HT9 := Lib.hid (((HT6.out.keep HE6.out).only H8.out.2 (by omega)).only H9.out.2 (by omega))
  have HO9 := Lib.hid (H8.out.1.only H9.out.2 (by omega))
  have zs7 := HOM.out.1
  have HX9 := Lib.hid (eonly (eonly (etr HX6.out HE6.out) H8.out.2 (by omega)) H9.out.2 (by omega))
  go_upto_region 4 with (first | (refine wp_ldN 31 [.int .i64 c.peer, .int .i64 ov, .int .i64 c.inn, .int .i64 c.heard] rfl rfl rfl (HO9.out).cells Tryd.underlying31 szSes rfl ?_) | (refine wp_stN 31 [.int .i64 c.T.id, .string c.T.name, .int .i64 c.T.len, .int .i64 c.T.speed, .int .i64 c.T.accel, .int .i64 c.T.service, .int .i64 c.T.emergency, .int .i64 c.T.delay, .int .i64 c.T.cons, .int .i64 c.T.rate, .int .i64 c.mode, .int .i64 c.brake, .int .i64 c.next, .int .i64 c.E.min, .int .i64 c.E.max, .int .i64 c.E.speed, .int .i64 c.seq, .int .i64 c.en, .slice A c.p.length ca, .slice L c.k.length cl, .int .i64 c.peer, .int .i64 ov, .int .i64 c.inn, .int .i64 c.heard, .bool c.known, .int .i64 c.since] [.int .i64 c.peer, .int .i64 ov, .int .i64 c.inn, .int .i64 c.heard] rfl rfl rfl (HB9.out) rfl szSes rfl (by show (20 + 4 : Nat) ≤ 26; decide) rfl ?_; intro w10 H10))
  refine wp_region_orders 4 rfl (by kernel_rfl) (fun wd hwd => ?_)
  have HL1 := Lib.hid (H10.out.1.keep hwd)
  have HL2 := Lib.hid ((H9.out.1.only H10.out.2 (by omega)).keep hwd)
  have HS1 := Lib.hid ((HR9.out.only H10.out.2 (by omega)).keep hwd)
  have HS2 := Lib.hid ((HT9.out.only H10.out.2 (by omega)).keep hwd)
  have HXd := Lib.hid (etr (eonly HX9.out H10.out.2 (by omega)) hwd)
  refine wpAny_go (rs := [0, 1]) (by kernel_rfl) (by simp) (AllO.cons rfl rfl (fun K hK => ?_) (AllO.cons rfl rfl (fun K hK => ?_) AllO.nil))
  · refine wpo_ldN 35 [.int .i64 c.T.id, .string c.T.name, .int .i64 c.T.len, .int .i64 c.T.speed, .int .i64 c.T.accel, .int .i64 c.T.service, .int .i64 c.T.emergency, .int .i64 c.T.delay, .int .i64 c.T.cons, .int .i64 c.T.rate, .int .i64 c.mode, .int .i64 c.brake, .int .i64 c.next, .int .i64 c.E.min, .int .i64 c.E.max, .int .i64 c.E.speed, .int .i64 c.seq, .int .i64 c.en, .slice A c.p.length ca, .slice L c.k.length cl, .int .i64 c.peer, .int .i64 ov, .int .i64 c.inn, .int .i64 c.heard, .bool c.known, .int .i64 c.since] rfl rfl (HL1.out).cells Tryd.underlying35 szCab rfl ?_
    refine hK _ _ ?_; clear hK K
    refine wpAny_go (rs := [1, 2]) (by kernel_rfl) (by simp) (AllO.cons rfl rfl (fun K hK => ?_) (AllO.cons rfl rfl (fun K hK => ?_) AllO.nil))
    · refine wpo_ldN 39 [.int .i64 1, .int .i64 c.T.id, .int .i64 c.peer, .int .i64 ov, .int .i64 now, .int .i64 0, .int .i64 0, .slice none 0 0, .slice none 0 0, .int .i64 c.E.min, .int .i64 c.E.speed, .int .i64 c.mode, .int .i64 c.seq, .bool wb] rfl rfl (HL2.out).cells Tryd.underlying39 szMsg rfl ?_
      refine hK _ _ ?_; clear hK K
      refine wpAny_go (rs := [2]) (by kernel_rfl) (by simp) (AllO.cons rfl rfl (fun K hK => ?_) AllO.nil)
      refine wpo_stN 35 [.int .i64 c.T.id, .string c.T.name, .int .i64 c.T.len, .int .i64 c.T.speed, .int .i64 c.T.accel, .int .i64 c.T.service, .int .i64 c.T.emergency, .int .i64 c.T.delay, .int .i64 c.T.cons, .int .i64 c.T.rate, .int .i64 c.mode, .int .i64 c.brake, .int .i64 c.next, .int .i64 c.E.min, .int .i64 c.E.max, .int .i64 c.E.speed, .int .i64 c.seq, .int .i64 c.en, .slice A c.p.length ca, .slice L c.k.length cl, .int .i64 c.peer, .int .i64 ov, .int .i64 c.inn, .int .i64 c.heard, .bool c.known, .int .i64 c.since] [.int .i64 c.T.id, .string c.T.name, .int .i64 c.T.len, .int .i64 c.T.speed, .int .i64 c.T.accel, .int .i64 c.T.service, .int .i64 c.T.emergency, .int .i64 c.T.delay, .int .i64 c.T.cons, .int .i64 c.T.rate, .int .i64 c.mode, .int .i64 c.brake, .int .i64 c.next, .int .i64 c.E.min, .int .i64 c.E.max, .int .i64 c.E.speed, .int .i64 c.seq, .int .i64 c.en, .slice A c.p.length ca, .slice L c.k.length cl, .int .i64 c.peer, .int .i64 ov, .int .i64 c.inn, .int .i64 c.heard, .bool c.known, .int .i64 c.since] rfl rfl (HS1.out) rfl szCab rfl (by show (0 + 26 : Nat) ≤ 26; decide) rfl ?_; intro wA HA
      refine hK _ _ ?_; clear hK K
      refine wpAny_go (rs := [3]) (by kernel_rfl) (by simp) (AllO.cons rfl rfl (fun K hK => ?_) AllO.nil)
      refine wpo_stN 39 [.int .i64 1, .int .i64 c.T.id, .int .i64 c.peer, .int .i64 ov, .int .i64 now, .int .i64 0, .int .i64 0, .slice none 0 0, .slice none 0 0, .int .i64 c.E.min, .int .i64 c.E.speed, .int .i64 c.mode, .int .i64 c.seq, .bool wb] [.int .i64 1, .int .i64 c.T.id, .int .i64 c.peer, .int .i64 ov, .int .i64 now, .int .i64 0, .int .i64 0, .slice none 0 0, .slice none 0 0, .int .i64 c.E.min, .int .i64 c.E.speed, .int .i64 c.mode, .int .i64 c.seq, .bool wb] rfl rfl (HS2.out.only HA.out.2 (by omega)) rfl szMsg rfl (by show (0 + 14 : Nat) ≤ 14; decide) rfl ?_; intro wB HB
      refine hK _ _ ?_; clear hK K
      refine wpAny_end (by kernel_rfl) ?_
      go_wp2
      refine bodyPost_ret (res_cc (by rfl) (by rfl) (by rfl) (HA.out.1.only HB.out.2 (by omega)).cells Tryd.underlying35 szCab HB.out.1.cells Tryd.underlying39 szMsg) rfl ?_
      rw [HOV.out, HWB.out]
      have HXe := eonly (eonly HXd.out HA.out.2 (by omega)) HB.out.2 (by omega)
      exact ⟨A, ca, L, cl, rfl, HP.out.keep HXe, HK.out.keep HXe, HXe⟩
    · refine wpo_stN 35 [.int .i64 c.T.id, .string c.T.name, .int .i64 c.T.len, .int .i64 c.T.speed, .int .i64 c.T.accel, .int .i64 c.T.service, .int .i64 c.T.emergency, .int .i64 c.T.delay, .int .i64 c.T.cons, .int .i64 c.T.rate, .int .i64 c.mode, .int .i64 c.brake, .int .i64 c.next, .int .i64 c.E.min, .int .i64 c.E.max, .int .i64 c.E.speed, .int .i64 c.seq, .int .i64 c.en, .slice A c.p.length ca, .slice L c.k.length cl, .int .i64 c.peer, .int .i64 ov, .int .i64 c.inn, .int .i64 c.heard, .bool c.known, .int .i64 c.since] [.int .i64 c.T.id, .string c.T.name, .int .i64 c.T.len, .int .i64 c.T.speed, .int .i64 c.T.accel, .int .i64 c.T.service, .int .i64 c.T.emergency, .int .i64 c.T.delay, .int .i64 c.T.cons, .int .i64 c.T.rate, .int .i64 c.mode, .int .i64 c.brake, .int .i64 c.next, .int .i64 c.E.min, .int .i64 c.E.max, .int .i64 c.E.speed, .int .i64 c.seq, .int .i64 c.en, .slice A c.p.length ca, .slice L c.k.length cl, .int .i64 c.peer, .int .i64 ov, .int .i64 c.inn, .int .i64 c.heard, .bool c.known, .int .i64 c.since] rfl rfl (HS1.out) rfl szCab rfl (by show (0 + 26 : Nat) ≤ 26; decide) rfl ?_; intro wA HA
      refine hK _ _ ?_; clear hK K
      refine wpAny_go (rs := [1]) (by kernel_rfl) (by simp) (AllO.cons rfl rfl (fun K hK => ?_) AllO.nil)
      refine wpo_ldN 39 [.int .i64 1, .int .i64 c.T.id, .int .i64 c.peer, .int .i64 ov, .int .i64 now, .int .i64 0, .int .i64 0, .slice none 0 0, .slice none 0 0, .int .i64 c.E.min, .int .i64 c.E.speed, .int .i64 c.mode, .int .i64 c.seq, .bool wb] rfl rfl (HL2.out.only HA.out.2 (by omega)).cells Tryd.underlying39 szMsg rfl ?_
      refine hK _ _ ?_; clear hK K
      refine wpAny_go (rs := [3]) (by kernel_rfl) (by simp) (AllO.cons rfl rfl (fun K hK => ?_) AllO.nil)
      refine wpo_stN 39 [.int .i64 1, .int .i64 c.T.id, .int .i64 c.peer, .int .i64 ov, .int .i64 now, .int .i64 0, .int .i64 0, .slice none 0 0, .slice none 0 0, .int .i64 c.E.min, .int .i64 c.E.speed, .int .i64 c.mode, .int .i64 c.seq, .bool wb] [.int .i64 1, .int .i64 c.T.id, .int .i64 c.peer, .int .i64 ov, .int .i64 now, .int .i64 0, .int .i64 0, .slice none 0 0, .slice none 0 0, .int .i64 c.E.min, .int .i64 c.E.speed, .int .i64 c.mode, .int .i64 c.seq, .bool wb] rfl rfl (HS2.out.only HA.out.2 (by omega)) rfl szMsg rfl (by show (0 + 14 : Nat) ≤ 14; decide) rfl ?_; intro wB HB
      refine hK _ _ ?_; clear hK K
      refine wpAny_end (by kernel_rfl) ?_
      go_wp2
      refine bodyPost_ret (res_cc (by rfl) (by rfl) (by rfl) (HA.out.1.only HB.out.2 (by omega)).cells Tryd.underlying35 szCab HB.out.1.cells Tryd.underlying39 szMsg) rfl ?_
      rw [HOV.out, HWB.out]
      have HXe := eonly (eonly HXd.out HA.out.2 (by omega)) HB.out.2 (by omega)
      exact ⟨A, ca, L, cl, rfl, HP.out.keep HXe, HK.out.keep HXe, HXe⟩
  · refine wpo_ldN 39 [.int .i64 1, .int .i64 c.T.id, .int .i64 c.peer, .int .i64 ov, .int .i64 now, .int .i64 0, .int .i64 0, .slice none 0 0, .slice none 0 0, .int .i64 c.E.min, .int .i64 c.E.speed, .int .i64 c.mode, .int .i64 c.seq, .bool wb] rfl rfl (HL2.out).cells Tryd.underlying39 szMsg rfl ?_
    refine hK _ _ ?_; clear hK K
    refine wpAny_go (rs := [0]) (by kernel_rfl) (by simp) (AllO.cons rfl rfl (fun K hK => ?_) AllO.nil)
    refine wpo_ldN 35 [.int .i64 c.T.id, .string c.T.name, .int .i64 c.T.len, .int .i64 c.T.speed, .int .i64 c.T.accel, .int .i64 c.T.service, .int .i64 c.T.emergency, .int .i64 c.T.delay, .int .i64 c.T.cons, .int .i64 c.T.rate, .int .i64 c.mode, .int .i64 c.brake, .int .i64 c.next, .int .i64 c.E.min, .int .i64 c.E.max, .int .i64 c.E.speed, .int .i64 c.seq, .int .i64 c.en, .slice A c.p.length ca, .slice L c.k.length cl, .int .i64 c.peer, .int .i64 ov, .int .i64 c.inn, .int .i64 c.heard, .bool c.known, .int .i64 c.since] rfl rfl (HL1.out).cells Tryd.underlying35 szCab rfl ?_
    refine hK _ _ ?_; clear hK K
    refine wpAny_go (rs := [2]) (by kernel_rfl) (by simp) (AllO.cons rfl rfl (fun K hK => ?_) AllO.nil)
    refine wpo_stN 35 [.int .i64 c.T.id, .string c.T.name, .int .i64 c.T.len, .int .i64 c.T.speed, .int .i64 c.T.accel, .int .i64 c.T.service, .int .i64 c.T.emergency, .int .i64 c.T.delay, .int .i64 c.T.cons, .int .i64 c.T.rate, .int .i64 c.mode, .int .i64 c.brake, .int .i64 c.next, .int .i64 c.E.min, .int .i64 c.E.max, .int .i64 c.E.speed, .int .i64 c.seq, .int .i64 c.en, .slice A c.p.length ca, .slice L c.k.length cl, .int .i64 c.peer, .int .i64 ov, .int .i64 c.inn, .int .i64 c.heard, .bool c.known, .int .i64 c.since] [.int .i64 c.T.id, .string c.T.name, .int .i64 c.T.len, .int .i64 c.T.speed, .int .i64 c.T.accel, .int .i64 c.T.service, .int .i64 c.T.emergency, .int .i64 c.T.delay, .int .i64 c.T.cons, .int .i64 c.T.rate, .int .i64 c.mode, .int .i64 c.brake, .int .i64 c.next, .int .i64 c.E.min, .int .i64 c.E.max, .int .i64 c.E.speed, .int .i64 c.seq, .int .i64 c.en, .slice A c.p.length ca, .slice L c.k.length cl, .int .i64 c.peer, .int .i64 ov, .int .i64 c.inn, .int .i64 c.heard, .bool c.known, .int .i64 c.since] rfl rfl (HS1.out) rfl szCab rfl (by show (0 + 26 : Nat) ≤ 26; decide) rfl ?_; intro wA HA
    refine hK _ _ ?_; clear hK K
    refine wpAny_go (rs := [3]) (by kernel_rfl) (by simp) (AllO.cons rfl rfl (fun K hK => ?_) AllO.nil)
    refine wpo_stN 39 [.int .i64 1, .int .i64 c.T.id, .int .i64 c.peer, .int .i64 ov, .int .i64 now, .int .i64 0, .int .i64 0, .slice none 0 0, .slice none 0 0, .int .i64 c.E.min, .int .i64 c.E.speed, .int .i64 c.mode, .int .i64 c.seq, .bool wb] [.int .i64 1, .int .i64 c.T.id, .int .i64 c.peer, .int .i64 ov, .int .i64 now, .int .i64 0, .int .i64 0, .slice none 0 0, .slice none 0 0, .int .i64 c.E.min, .int .i64 c.E.speed, .int .i64 c.mode, .int .i64 c.seq, .bool wb] rfl rfl (HS2.out.only HA.out.2 (by omega)) rfl szMsg rfl (by show (0 + 14 : Nat) ≤ 14; decide) rfl ?_; intro wB HB
    refine hK _ _ ?_; clear hK K
    refine wpAny_end (by kernel_rfl) ?_
    go_wp2
    refine bodyPost_ret (res_cc (by rfl) (by rfl) (by rfl) (HA.out.1.only HB.out.2 (by omega)).cells Tryd.underlying35 szCab HB.out.1.cells Tryd.underlying39 szMsg) rfl ?_
    rw [HOV.out, HWB.out]
    have HXe := eonly (eonly HXd.out HA.out.2 (by omega)) HB.out.2 (by omega)
    exact ⟨A, ca, L, cl, rfl, HP.out.keep HXe, HK.out.keep HXe, HXe⟩
end Go.Proofs.YtbgmknkmfhpgeaaDoor
