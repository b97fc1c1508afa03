/- Walks: copies of authorities and units. -/
import Derived.Test.YtbgmknkmfhpgeaaDoorLibSeg2
import Derived.Test.YtbgmknkmfhpgeaaDoorLibLnk
import Derived.Deep.Cut
set_option linter.unusedVariables false
set_option linter.unusedSimpArgs false
set_option maxRecDepth 100000
namespace Go.Proofs.YtbgmknkmfhpgeaaDoor
open Go.ChangeShapes Go.WideShapes Go.ChangeAt Go.RowKit
open Sg
set_option maxHeartbeats 2000000 in
theorem freshA_any (sq en : Int) (A L : Option Addr) (p : List Sgm) (k : List Lnk) (ca cl : Nat) (w : World) (hp : p.length ≤ 1000000) (hk : k.length ≤ 1000000) (hr : Rd w A 4 Sgc p) (hr2 : Rd w L 2 Lkc k) :
    Calls Tryd.prog 69 #[.agg #[.int .i64 sq, .int .i64 en, .slice A p.length ca, .slice L k.length cl]] w fun e w' => ∃ A' ca' L' cl', e = .returned (.agg #[.int .i64 sq, .int .i64 en, .slice A' p.length ca', .slice L' k.length cl']) ∧ RdN w.heap.size w' A' 4 Sgc p ∧ RdN w.heap.size w' L' 2 Lkc k ∧ Below w.heap.size w w' := by
  have HP := Lib.hid hr
  have HK := Lib.hid hr2
  clear hr hr2
  obtain ⟨w1, hw⟩ : ∃ w1, w1 = ((w.alloc (.cells #[.int .i64 sq, .int .i64 en, .slice A p.length ca, .slice L k.length cl] 29)).alloc (.cells #[.int .i64 0, .int .i64 0, .slice none 0 0, .slice none 0 0] 29)) := ⟨_, rfl⟩
  have HE0 : Hid (Ext w w1) := by rw [hw]; exact eal (eal (Ext.refl w) _) _
  have HB : Hid (Own w1 (w.heap.size) [.int .i64 sq, .int .i64 en, .slice A p.length ca, .slice L k.length cl]) := by rw [hw]; exact (Own.new (w := w) (cs := #[.int .i64 sq, .int .i64 en, .slice A p.length ca, .slice L k.length cl]) (t := 29) (by simp)).alloc _
  have HR : Hid (Own w1 (w.heap.size + 1) [.int .i64 0, .int .i64 0, .slice none 0 0, .slice none 0 0]) := by rw [hw]; exact Own.new (w := (w.alloc (.cells #[.int .i64 sq, .int .i64 en, .slice A p.length ca, .slice L k.length cl] 29))) (cs := #[.int .i64 0, .int .i64 0, .slice none 0 0, .slice none 0 0]) (t := 29) (by simp)
  go_enter Tryd.func69, Tryd.ntmps69
  go_upto_region 1 with (fail)
  rw [← hw]
  clear hw
  have a0 := HB.out.cells.2 0 _ rfl
  have a1 := HB.out.cells.2 1 _ rfl
  have a2 := HB.out.cells.2 2 _ rfl
  have a3 := HB.out.cells.2 3 _ rfl
  have az := HB.out.cells.1
  have af := HB.out.2.2
  go_wp2_with fail
  refine (clone_Seg A p ca _ hp (HP.out.keep HE0.out)).mono ?_
  rintro e w2 ⟨v, rfl, ho, hb⟩
  obtain ⟨A1, c1, rfl, hn⟩ := ho.rdN Sgc_len
  clear a0 a1 a2 a3 az af
  have z1 := HR.out.1
  have HA1 := Lib.hid hn
  have HE1 := Lib.hid (etr HE0.out hb)
  have HB2 := Lib.hid (HB.out.keep hb)
  have HR2 := Lib.hid (HR.out.keep hb)
  clear hb ho hn
  have a0 := HB2.out.cells.2 0 _ rfl
  have a1 := HB2.out.cells.2 1 _ rfl
  have a2 := HB2.out.cells.2 2 _ rfl
  have a3 := HB2.out.cells.2 3 _ rfl
  have az := HB2.out.cells.1
  have af := HB2.out.2.2
  go_upto_region 2 with (fail)
  obtain ⟨w3, hw3⟩ : ∃ x, x = (w2.setCell ⟨w.heap.size, 2, none⟩ (.slice A1 p.length c1)) := ⟨_, rfl⟩
  obtain ⟨ow3, nw3⟩ := setN_at HB2.out 2 [.slice A1 p.length c1] (us := _) (ws := [.int .i64 sq, .int .i64 en, .slice A1 p.length c1, .slice L k.length cl]) rfl (by simp) hw3
  rw [← hw3]
  have HE3 := Lib.hid (eonly HE1.out nw3 (Nat.le_refl _))
  have HB3 := Lib.hid ow3
  have HR3 := Lib.hid (HR2.out.only nw3 (by simp))
  have HA3 := Lib.hid (HA1.out.only nw3 (by omega))
  clear a0 a1 a2 a3 az af
  clear hw3 ow3 nw3
  have a0 := HB3.out.cells.2 0 _ rfl
  have a1 := HB3.out.cells.2 1 _ rfl
  have a2 := HB3.out.cells.2 2 _ rfl
  have a3 := HB3.out.cells.2 3 _ rfl
  have az := HB3.out.cells.1
  have af := HB3.out.2.2
  go_wp2_with fail
  refine (clone_Lnk L k cl _ hk (HK.out.keep HE3.out)).mono ?_
  rintro e w4 ⟨v, rfl, ho, hb⟩
  obtain ⟨L1, d1, rfl, hn⟩ := ho.rdN Lkc_len
  clear a0 a1 a2 a3 az af
  have z3 := HR3.out.1
  have HA4 := Lib.hid (HA3.out.keep hb)
  have HL4 := Lib.hid hn
  have HE4 := Lib.hid (etr HE3.out hb)
  have HB4 := Lib.hid (HB3.out.keep hb)
  have HR4 := Lib.hid (HR3.out.keep hb)
  clear hb ho hn
  have a0 := HB4.out.cells.2 0 _ rfl
  have a1 := HB4.out.cells.2 1 _ rfl
  have a2 := HB4.out.cells.2 2 _ rfl
  have a3 := HB4.out.cells.2 3 _ rfl
  have az := HB4.out.cells.1
  have af := HB4.out.2.2
  go_upto_region 3 with (fail)
  obtain ⟨w5, hw5⟩ : ∃ x, x = (w4.setCell ⟨w.heap.size, 3, none⟩ (.slice L1 k.length d1)) := ⟨_, rfl⟩
  obtain ⟨ow5, nw5⟩ := setN_at HB4.out 3 [.slice L1 k.length d1] (us := _) (ws := [.int .i64 sq, .int .i64 en, .slice A1 p.length c1, .slice L1 k.length d1]) rfl (by simp) hw5
  rw [← hw5]
  have HE5 := Lib.hid (eonly HE4.out nw5 (Nat.le_refl _))
  have HB5 := Lib.hid ow5
  have HR5 := Lib.hid (HR4.out.only nw5 (by simp))
  have HA5 := Lib.hid (HA4.out.only nw5 (by omega))
  have HL5 := Lib.hid (HL4.out.only nw5 (by omega))
  clear a0 a1 a2 a3 az af
  clear hw5 ow5 nw5
  have a0 := HB5.out.cells.2 0 _ rfl
  have a1 := HB5.out.cells.2 1 _ rfl
  have a2 := HB5.out.cells.2 2 _ rfl
  have a3 := HB5.out.cells.2 3 _ rfl
  have az := HB5.out.cells.1
  have af := HB5.out.2.2
  have r0 := HR5.out.cells.2 0 _ rfl
  have r1 := HR5.out.cells.2 1 _ rfl
  have r2 := HR5.out.cells.2 2 _ rfl
  have r3 := HR5.out.cells.2 3 _ rfl
  have rz := HR5.out.cells.1
  have rf := HR5.out.2.2
  go_wp2_with fail
  obtain ⟨w6, hw6⟩ : ∃ x, x = ((((w5.setCell ⟨(w.heap.size + 1), 0, none⟩ (.int .i64 sq)).setCell ⟨(w.heap.size + 1), 1, none⟩ (.int .i64 en)).setCell ⟨(w.heap.size + 1), 2, none⟩ (.slice A1 p.length c1)).setCell ⟨(w.heap.size + 1), 3, none⟩ (.slice L1 k.length d1)) := ⟨_, rfl⟩
  obtain ⟨ow6, nw6⟩ := setN_at HR5.out 0 [.int .i64 sq, .int .i64 en, .slice A1 p.length c1, .slice L1 k.length d1] (us := _) (ws := [.int .i64 sq, .int .i64 en, .slice A1 p.length c1, .slice L1 k.length d1]) rfl (by simp) hw6
  rw [← hw6]
  clear r0 r1 r2 r3 rz rf
  have r0 := ow6.cells.2 0 _ rfl
  have r1 := ow6.cells.2 1 _ rfl
  have r2 := ow6.cells.2 2 _ rfl
  have r3 := ow6.cells.2 3 _ rfl
  have rz := ow6.cells.1
  have z0 := HE0.out.size
  refine bodyPost_ret (v := .agg #[.int .i64 sq, .int .i64 en, .slice A1 p.length c1, .slice L1 k.length d1]) (by simp [results, Tryd.results69, go_sem, r0, r1, r2, r3, rz]) rfl ⟨A1, c1, L1, d1, rfl, (HA5.out.only nw6 (by omega)).mono (by omega), (HL5.out.only nw6 (by omega)).mono (by omega), eonly HE5.out nw6 (by omega)⟩

set_option maxHeartbeats 4000000 in
theorem fresh_any (c : Cb) (A L : Option Addr) (ca cl : Nat) (w : World) (hp : c.p.length ≤ 1000000) (hk : c.k.length ≤ 1000000) (hr : Rd w A 4 Sgc c.p) (hr2 : Rd w L 2 Lkc c.k) :
    Calls Tryd.prog 33 #[.agg #[.int .i64 c.T.id, .string c.T.name, .int .i64 c.T.len, .int .i64 c.T.speed, .int .i64 c.T.accel, .int .i64 c.T.service, .int .i64 c.T.emergency, .int .i64 c.T.delay, .int .i64 c.T.cons, .int .i64 c.T.rate, .int .i64 c.mode, .int .i64 c.brake, .int .i64 c.next, .int .i64 c.E.min, .int .i64 c.E.max, .int .i64 c.E.speed, .int .i64 c.seq, .int .i64 c.en, .slice A c.p.length ca, .slice L c.k.length cl, .int .i64 c.peer, .int .i64 c.out, .int .i64 c.inn, .int .i64 c.heard, .bool c.known, .int .i64 c.since]] w fun e w' => CabR w c e w' := by
  have HP := Lib.hid hr
  have HK := Lib.hid hr2
  clear hr hr2
  obtain ⟨w1, hw⟩ : ∃ w1, w1 = ((w.alloc (.cells #[.int .i64 c.T.id, .string c.T.name, .int .i64 c.T.len, .int .i64 c.T.speed, .int .i64 c.T.accel, .int .i64 c.T.service, .int .i64 c.T.emergency, .int .i64 c.T.delay, .int .i64 c.T.cons, .int .i64 c.T.rate, .int .i64 c.mode, .int .i64 c.brake, .int .i64 c.next, .int .i64 c.E.min, .int .i64 c.E.max, .int .i64 c.E.speed, .int .i64 c.seq, .int .i64 c.en, .slice A c.p.length ca, .slice L c.k.length cl, .int .i64 c.peer, .int .i64 c.out, .int .i64 c.inn, .int .i64 c.heard, .bool c.known, .int .i64 c.since] 35)).alloc (.cells #[.int .i64 0, .string ⟨#[]⟩, .int .i64 0, .int .i64 0, .int .i64 0, .int .i64 0, .int .i64 0, .int .i64 0, .int .i64 0, .int .i64 0, .int .i64 0, .int .i64 0, .int .i64 0, .int .i64 0, .int .i64 0, .int .i64 0, .int .i64 0, .int .i64 0, .slice none 0 0, .slice none 0 0, .int .i64 0, .int .i64 0, .int .i64 0, .int .i64 0, .bool false, .int .i64 0] 35)) := ⟨_, rfl⟩
  have HE0 : Hid (Ext w w1) := by rw [hw]; exact eal (eal (Ext.refl w) _) _
  have HB : Hid (Own w1 (w.heap.size) [.int .i64 c.T.id, .string c.T.name, .int .i64 c.T.len, .int .i64 c.T.speed, .int .i64 c.T.accel, .int .i64 c.T.service, .int .i64 c.T.emergency, .int .i64 c.T.delay, .int .i64 c.T.cons, .int .i64 c.T.rate, .int .i64 c.mode, .int .i64 c.brake, .int .i64 c.next, .int .i64 c.E.min, .int .i64 c.E.max, .int .i64 c.E.speed, .int .i64 c.seq, .int .i64 c.en, .slice A c.p.length ca, .slice L c.k.length cl, .int .i64 c.peer, .int .i64 c.out, .int .i64 c.inn, .int .i64 c.heard, .bool c.known, .int .i64 c.since]) := by rw [hw]; exact (Own.new (w := w) (cs := #[.int .i64 c.T.id, .string c.T.name, .int .i64 c.T.len, .int .i64 c.T.speed, .int .i64 c.T.accel, .int .i64 c.T.service, .int .i64 c.T.emergency, .int .i64 c.T.delay, .int .i64 c.T.cons, .int .i64 c.T.rate, .int .i64 c.mode, .int .i64 c.brake, .int .i64 c.next, .int .i64 c.E.min, .int .i64 c.E.max, .int .i64 c.E.speed, .int .i64 c.seq, .int .i64 c.en, .slice A c.p.length ca, .slice L c.k.length cl, .int .i64 c.peer, .int .i64 c.out, .int .i64 c.inn, .int .i64 c.heard, .bool c.known, .int .i64 c.since]) (t := 35) (by simp)).alloc _
  have HR : Hid (Own w1 (w.heap.size + 1) [.int .i64 0, .string ⟨#[]⟩, .int .i64 0, .int .i64 0, .int .i64 0, .int .i64 0, .int .i64 0, .int .i64 0, .int .i64 0, .int .i64 0, .int .i64 0, .int .i64 0, .int .i64 0, .int .i64 0, .int .i64 0, .int .i64 0, .int .i64 0, .int .i64 0, .slice none 0 0, .slice none 0 0, .int .i64 0, .int .i64 0, .int .i64 0, .int .i64 0, .bool false, .int .i64 0]) := by rw [hw]; exact Own.new (w := (w.alloc (.cells #[.int .i64 c.T.id, .string c.T.name, .int .i64 c.T.len, .int .i64 c.T.speed, .int .i64 c.T.accel, .int .i64 c.T.service, .int .i64 c.T.emergency, .int .i64 c.T.delay, .int .i64 c.T.cons, .int .i64 c.T.rate, .int .i64 c.mode, .int .i64 c.brake, .int .i64 c.next, .int .i64 c.E.min, .int .i64 c.E.max, .int .i64 c.E.speed, .int .i64 c.seq, .int .i64 c.en, .slice A c.p.length ca, .slice L c.k.length cl, .int .i64 c.peer, .int .i64 c.out, .int .i64 c.inn, .int .i64 c.heard, .bool c.known, .int .i64 c.since] 35))) (cs := #[.int .i64 0, .string ⟨#[]⟩, .int .i64 0, .int .i64 0, .int .i64 0, .int .i64 0, .int .i64 0, .int .i64 0, .int .i64 0, .int .i64 0, .int .i64 0, .int .i64 0, .int .i64 0, .int .i64 0, .int .i64 0, .int .i64 0, .int .i64 0, .int .i64 0, .slice none 0 0, .slice none 0 0, .int .i64 0, .int .i64 0, .int .i64 0, .int .i64 0, .bool false, .int .i64 0]) (t := 35) (by simp)
  go_enter Tryd.func33, Tryd.ntmps33
  go_upto_region 1 with (fail)
  rw [← hw]
  clear hw
  go_wp2_with (first | (refine wp_ldN 29 [.int .i64 c.seq, .int .i64 c.en, .slice A c.p.length ca, .slice L c.k.length cl] rfl rfl rfl (HB.out).cells Tryd.underlying29 szAut rfl ?_))
  refine (freshA_any c.seq c.en A L c.p c.k ca cl _ hp hk (HP.out.keep HE0.out) (HK.out.keep HE0.out)).mono ?_
  rintro e w2 ⟨A1, c1, L1, d1, rfl, h1, h2, hb⟩
  have z1 := HR.out.1
  have HA2 := Lib.hid h1
  have HL2 := Lib.hid h2
  have HE2 := Lib.hid (etr HE0.out hb)
  have HB2 := Lib.hid (HB.out.keep hb)
  have HR2 := Lib.hid (HR.out.keep hb)
  clear hb h1 h2
  go_wp2_with (first | (refine wp_stN 29 [.int .i64 c.T.id, .string c.T.name, .int .i64 c.T.len, .int .i64 c.T.speed, .int .i64 c.T.accel, .int .i64 c.T.service, .int .i64 c.T.emergency, .int .i64 c.T.delay, .int .i64 c.T.cons, .int .i64 c.T.rate, .int .i64 c.mode, .int .i64 c.brake, .int .i64 c.next, .int .i64 c.E.min, .int .i64 c.E.max, .int .i64 c.E.speed, .int .i64 c.seq, .int .i64 c.en, .slice A1 c.p.length c1, .slice L1 c.k.length d1, .int .i64 c.peer, .int .i64 c.out, .int .i64 c.inn, .int .i64 c.heard, .bool c.known, .int .i64 c.since] [.int .i64 c.seq, .int .i64 c.en, .slice A1 c.p.length c1, .slice L1 c.k.length d1] rfl rfl rfl (HB2.out) rfl szAut rfl (by show (16 + 4 : Nat) ≤ 26; decide) rfl ?_; intro w3 H3) | (refine wp_ldN 35 [.int .i64 c.T.id, .string c.T.name, .int .i64 c.T.len, .int .i64 c.T.speed, .int .i64 c.T.accel, .int .i64 c.T.service, .int .i64 c.T.emergency, .int .i64 c.T.delay, .int .i64 c.T.cons, .int .i64 c.T.rate, .int .i64 c.mode, .int .i64 c.brake, .int .i64 c.next, .int .i64 c.E.min, .int .i64 c.E.max, .int .i64 c.E.speed, .int .i64 c.seq, .int .i64 c.en, .slice A1 c.p.length c1, .slice L1 c.k.length d1, .int .i64 c.peer, .int .i64 c.out, .int .i64 c.inn, .int .i64 c.heard, .bool c.known, .int .i64 c.since] rfl rfl rfl (H3.out.1).cells Tryd.underlying35 szCab rfl ?_) | (refine wp_stN 35 [.int .i64 c.T.id, .string c.T.name, .int .i64 c.T.len, .int .i64 c.T.speed, .int .i64 c.T.accel, .int .i64 c.T.service, .int .i64 c.T.emergency, .int .i64 c.T.delay, .int .i64 c.T.cons, .int .i64 c.T.rate, .int .i64 c.mode, .int .i64 c.brake, .int .i64 c.next, .int .i64 c.E.min, .int .i64 c.E.max, .int .i64 c.E.speed, .int .i64 c.seq, .int .i64 c.en, .slice A1 c.p.length c1, .slice L1 c.k.length d1, .int .i64 c.peer, .int .i64 c.out, .int .i64 c.inn, .int .i64 c.heard, .bool c.known, .int .i64 c.since] [.int .i64 c.T.id, .string c.T.name, .int .i64 c.T.len, .int .i64 c.T.speed, .int .i64 c.T.accel, .int .i64 c.T.service, .int .i64 c.T.emergency, .int .i64 c.T.delay, .int .i64 c.T.cons, .int .i64 c.T.rate, .int .i64 c.mode, .int .i64 c.brake, .int .i64 c.next, .int .i64 c.E.min, .int .i64 c.E.max, .int .i64 c.E.speed, .int .i64 c.seq, .int .i64 c.en, .slice A1 c.p.length c1, .slice L1 c.k.length d1, .int .i64 c.peer, .int .i64 c.out, .int .i64 c.inn, .int .i64 c.heard, .bool c.known, .int .i64 c.since] rfl rfl rfl (HR2.out.only H3.out.2 (by simp)) rfl szCab rfl (by show (0 + 26 : Nat) ≤ 26; decide) rfl ?_; intro w4 H4))
  have HA4 := (HA2.out.only H3.out.2 (by omega)).only H4.out.2 (by omega)
  have HL4 := (HL2.out.only H3.out.2 (by omega)).only H4.out.2 (by omega)
  have z0 := HE0.out.size
  refine bodyPost_ret (res_c (by rfl) (by rfl) (H4.out.1).cells Tryd.underlying35 szCab) rfl ⟨A1, c1, L1, d1, rfl, HA4.mono (by omega), HL4.mono (by omega), eonly (eonly HE2.out H3.out.2 (Nat.le_refl _)) H4.out.2 (by omega)⟩
end Go.Proofs.YtbgmknkmfhpgeaaDoor
