/- Walks: a movement is measured. -/
import Derived.Test.YtbgmknkmfhpgeaaDoorWCabO
import Derived.Test.YtbgmknkmfhpgeaaDoorWCabC
import Derived.Test.YtbgmknkmfhpgeaaDoorWOdo2
set_option linter.unusedVariables false
set_option linter.unusedSimpArgs false
set_option maxRecDepth 100000
namespace Go.Proofs.YtbgmknkmfhpgeaaDoor
open Go.ChangeShapes Go.WideShapes Go.ChangeAt Go.RowKit
open Sg
structure MeaS (w : World) (B : Nat) (c : Cb) (A1 L1 : Option Addr) (c1 d1 : Nat) (n : Int) (E : Es) (wr : World) : Prop where
  ext : Ext w wr
  b : Own wr w.heap.size [.int .i64 c.T.id, .string c.T.name, .int .i64 c.T.len, .int .i64 c.T.speed, .int .i64 c.T.accel, .int .i64 c.T.service, .int .i64 c.T.emergency, .int .i64 c.T.delay, .int .i64 c.T.cons, .int .i64 c.T.rate, .int .i64 c.mode, .int .i64 c.brake, .int .i64 n, .int .i64 E.min, .int .i64 E.max, .int .i64 E.speed, .int .i64 c.seq, .int .i64 c.en, .slice A1 c.p.length c1, .slice L1 c.k.length d1, .int .i64 c.peer, .int .i64 c.out, .int .i64 c.inn, .int .i64 c.heard, .bool c.known, .int .i64 c.since]
  r : Own wr (w.heap.size + 1) [.int .i64 0, .string ⟨#[]⟩, .int .i64 0, .int .i64 0, .int .i64 0, .int .i64 0, .int .i64 0, .int .i64 0, .int .i64 0, .int .i64 0, .int .i64 0, .int .i64 0, .int .i64 0, .int .i64 0, .int .i64 0, .int .i64 0, .int .i64 0, .int .i64 0, .slice none 0 0, .slice none 0 0, .int .i64 0, .int .i64 0, .int .i64 0, .int .i64 0, .bool false, .int .i64 0]
  a : RdN B wr A1 4 Sgc c.p
  l : RdN B wr L1 2 Lkc c.k
def MeaR (w0 : World) (c : Cb) (e : Ending) (w' : World) : Prop := ∃ d : Cb, d.mode = c.mode ∧ CabR w0 d e w'
set_option maxHeartbeats 32000000 in
theorem measure_any (c : Cb) (A L Ar : Option Addr) (ca cl cr : Nat) (m now : Int) (rs : List Rea) (wh : Bool) (w : World) (hp : c.p.length ≤ 1000000) (hk : c.k.length ≤ 1000000) (hrs : rs.length ≤ 1000000) (hr : Rd w A 4 Sgc c.p) (hr2 : Rd w L 2 Lkc c.k) (hr3 : Rd w Ar 2 Rec rs) (hok : CbOk c) :
    Calls Tryd.prog 27 #[.agg #[.int .i64 c.T.id, .string c.T.name, .int .i64 c.T.len, .int .i64 c.T.speed, .int .i64 c.T.accel, .int .i64 c.T.service, .int .i64 c.T.emergency, .int .i64 c.T.delay, .int .i64 c.T.cons, .int .i64 c.T.rate, .int .i64 c.mode, .int .i64 c.brake, .int .i64 c.next, .int .i64 c.E.min, .int .i64 c.E.max, .int .i64 c.E.speed, .int .i64 c.seq, .int .i64 c.en, .slice A c.p.length ca, .slice L c.k.length cl, .int .i64 c.peer, .int .i64 c.out, .int .i64 c.inn, .int .i64 c.heard, .bool c.known, .int .i64 c.since], .int .i64 m, .slice Ar rs.length cr, .bool wh, .int .i64 now] w fun e w' => MeaR w c e w' := by
  have HP := Lib.hid hr
  have HK := Lib.hid hr2
  have HRR := Lib.hid hr3
  have HOK := Lib.hid hok
  clear hr hr2 hr3 hok
  obtain ⟨w1, hw⟩ : ∃ w1, w1 = ((w.alloc (.cells #[.int .i64 c.T.id, .string c.T.name, .int .i64 c.T.len, .int .i64 c.T.speed, .int .i64 c.T.accel, .int .i64 c.T.service, .int .i64 c.T.emergency, .int .i64 c.T.delay, .int .i64 c.T.cons, .int .i64 c.T.rate, .int .i64 c.mode, .int .i64 c.brake, .int .i64 c.next, .int .i64 c.E.min, .int .i64 c.E.max, .int .i64 c.E.speed, .int .i64 c.seq, .int .i64 c.en, .slice A c.p.length ca, .slice L c.k.length cl, .int .i64 c.peer, .int .i64 c.out, .int .i64 c.inn, .int .i64 c.heard, .bool c.known, .int .i64 c.since] 35)).alloc (.cells #[.int .i64 0, .string ⟨#[]⟩, .int .i64 0, .int .i64 0, .int .i64 0, .int .i64 0, .int .i64 0, .int .i64 0, .int .i64 0, .int .i64 0, .int .i64 0, .int .i64 0, .int .i64 0, .int .i64 0, .int .i64 0, .int .i64 0, .int .i64 0, .int .i64 0, .slice none 0 0, .slice none 0 0, .int .i64 0, .int .i64 0, .int .i64 0, .int .i64 0, .bool false, .int .i64 0] 35)) := ⟨_, rfl⟩
  have HE0 : Hid (Ext w w1) := by rw [hw]; exact eal (eal (Ext.refl w) _) _
  have HB : Hid (Own w1 (w.heap.size) [.int .i64 c.T.id, .string c.T.name, .int .i64 c.T.len, .int .i64 c.T.speed, .int .i64 c.T.accel, .int .i64 c.T.service, .int .i64 c.T.emergency, .int .i64 c.T.delay, .int .i64 c.T.cons, .int .i64 c.T.rate, .int .i64 c.mode, .int .i64 c.brake, .int .i64 c.next, .int .i64 c.E.min, .int .i64 c.E.max, .int .i64 c.E.speed, .int .i64 c.seq, .int .i64 c.en, .slice A c.p.length ca, .slice L c.k.length cl, .int .i64 c.peer, .int .i64 c.out, .int .i64 c.inn, .int .i64 c.heard, .bool c.known, .int .i64 c.since]) := by rw [hw]; exact (Own.new (w := w) (cs := #[.int .i64 c.T.id, .string c.T.name, .int .i64 c.T.len, .int .i64 c.T.speed, .int .i64 c.T.accel, .int .i64 c.T.service, .int .i64 c.T.emergency, .int .i64 c.T.delay, .int .i64 c.T.cons, .int .i64 c.T.rate, .int .i64 c.mode, .int .i64 c.brake, .int .i64 c.next, .int .i64 c.E.min, .int .i64 c.E.max, .int .i64 c.E.speed, .int .i64 c.seq, .int .i64 c.en, .slice A c.p.length ca, .slice L c.k.length cl, .int .i64 c.peer, .int .i64 c.out, .int .i64 c.inn, .int .i64 c.heard, .bool c.known, .int .i64 c.since]) (t := 35) (by simp)).alloc _
  have HR : Hid (Own w1 (w.heap.size + 1) [.int .i64 0, .string ⟨#[]⟩, .int .i64 0, .int .i64 0, .int .i64 0, .int .i64 0, .int .i64 0, .int .i64 0, .int .i64 0, .int .i64 0, .int .i64 0, .int .i64 0, .int .i64 0, .int .i64 0, .int .i64 0, .int .i64 0, .int .i64 0, .int .i64 0, .slice none 0 0, .slice none 0 0, .int .i64 0, .int .i64 0, .int .i64 0, .int .i64 0, .bool false, .int .i64 0]) := by rw [hw]; exact Own.new (w := (w.alloc (.cells #[.int .i64 c.T.id, .string c.T.name, .int .i64 c.T.len, .int .i64 c.T.speed, .int .i64 c.T.accel, .int .i64 c.T.service, .int .i64 c.T.emergency, .int .i64 c.T.delay, .int .i64 c.T.cons, .int .i64 c.T.rate, .int .i64 c.mode, .int .i64 c.brake, .int .i64 c.next, .int .i64 c.E.min, .int .i64 c.E.max, .int .i64 c.E.speed, .int .i64 c.seq, .int .i64 c.en, .slice A c.p.length ca, .slice L c.k.length cl, .int .i64 c.peer, .int .i64 c.out, .int .i64 c.inn, .int .i64 c.heard, .bool c.known, .int .i64 c.since] 35))) (cs := #[.int .i64 0, .string ⟨#[]⟩, .int .i64 0, .int .i64 0, .int .i64 0, .int .i64 0, .int .i64 0, .int .i64 0, .int .i64 0, .int .i64 0, .int .i64 0, .int .i64 0, .int .i64 0, .int .i64 0, .int .i64 0, .int .i64 0, .int .i64 0, .int .i64 0, .slice none 0 0, .slice none 0 0, .int .i64 0, .int .i64 0, .int .i64 0, .int .i64 0, .bool false, .int .i64 0]) (t := 35) (by simp)
  go_enter Tryd.func27, Tryd.ntmps27
  go_upto_region 1 with (fail)
  rw [← hw]
  clear hw
  go_wp2_with (first | (refine wp_ldN 35 [.int .i64 c.T.id, .string c.T.name, .int .i64 c.T.len, .int .i64 c.T.speed, .int .i64 c.T.accel, .int .i64 c.T.service, .int .i64 c.T.emergency, .int .i64 c.T.delay, .int .i64 c.T.cons, .int .i64 c.T.rate, .int .i64 c.mode, .int .i64 c.brake, .int .i64 c.next, .int .i64 c.E.min, .int .i64 c.E.max, .int .i64 c.E.speed, .int .i64 c.seq, .int .i64 c.en, .slice A c.p.length ca, .slice L c.k.length cl, .int .i64 c.peer, .int .i64 c.out, .int .i64 c.inn, .int .i64 c.heard, .bool c.known, .int .i64 c.since] rfl rfl rfl (HB.out).cells Tryd.underlying35 szCab rfl ?_))
  refine (fresh_any c A L ca cl _ hp hk (HP.out.keep HE0.out) (HK.out.keep HE0.out)).mono ?_
  rintro e w2 ⟨A1, c1, L1, d1, rfl, h1, h2, hb⟩
  have z1 := HR.out.1
  have z0 := HE0.out.size
  have HOBv1 := Lib.hid (HB.out.keep hb)
  have HORv1 := Lib.hid (HR.out.keep hb)
  have HXv1 := Lib.hid (etr HE0.out hb)
  have HNAv1 := Lib.hid h1
  have HNLv1 := Lib.hid h2
  clear hb h1 h2
  go_upto_region 2 with (first | (refine wp_stN 35 [.int .i64 c.T.id, .string c.T.name, .int .i64 c.T.len, .int .i64 c.T.speed, .int .i64 c.T.accel, .int .i64 c.T.service, .int .i64 c.T.emergency, .int .i64 c.T.delay, .int .i64 c.T.cons, .int .i64 c.T.rate, .int .i64 c.mode, .int .i64 c.brake, .int .i64 c.next, .int .i64 c.E.min, .int .i64 c.E.max, .int .i64 c.E.speed, .int .i64 c.seq, .int .i64 c.en, .slice A1 c.p.length c1, .slice L1 c.k.length d1, .int .i64 c.peer, .int .i64 c.out, .int .i64 c.inn, .int .i64 c.heard, .bool c.known, .int .i64 c.since] [.int .i64 c.T.id, .string c.T.name, .int .i64 c.T.len, .int .i64 c.T.speed, .int .i64 c.T.accel, .int .i64 c.T.service, .int .i64 c.T.emergency, .int .i64 c.T.delay, .int .i64 c.T.cons, .int .i64 c.T.rate, .int .i64 c.mode, .int .i64 c.brake, .int .i64 c.next, .int .i64 c.E.min, .int .i64 c.E.max, .int .i64 c.E.speed, .int .i64 c.seq, .int .i64 c.en, .slice A1 c.p.length c1, .slice L1 c.k.length d1, .int .i64 c.peer, .int .i64 c.out, .int .i64 c.inn, .int .i64 c.heard, .bool c.known, .int .i64 c.since] rfl rfl rfl (HOBv1.out) rfl szCab rfl (by show (0 + 26 : Nat) ≤ 26; decide) rfl ?_; intro w3 H3))
  have HOBv2 := Lib.hid (H3.out.1)
  have HORv2 := Lib.hid (HORv1.out.only H3.out.2 (by omega))
  have HNAv2 := Lib.hid (HNAv1.out.only H3.out.2 (by omega))
  have HNLv2 := Lib.hid (HNLv1.out.only H3.out.2 (by omega))
  have HXv2 := Lib.hid (eonly HXv1.out H3.out.2 (by omega))
  clear H3
  go_wp2_with (first | (refine wp_ldN 23 [.int .i64 c.T.id, .string c.T.name, .int .i64 c.T.len, .int .i64 c.T.speed, .int .i64 c.T.accel, .int .i64 c.T.service, .int .i64 c.T.emergency, .int .i64 c.T.delay, .int .i64 c.T.cons, .int .i64 c.T.rate] rfl rfl rfl (HOBv2.out).cells Tryd.underlying23 szTr rfl ?_) | (refine wp_ldN 25 [.int .i64 c.E.min, .int .i64 c.E.max, .int .i64 c.E.speed] rfl rfl rfl (HOBv2.out).cells Tryd.underlying25 szEst rfl ?_))
  refine (add_any c.T c.E m _ HOK.out.tr.cons HOK.out.tr.rate HOK.out.min HOK.out.max).mono ?_
  rintro e w4 ⟨rfl, hb⟩
  generalize addV c.T.cons c.T.rate c.E m = E0
  have HOBv3 := Lib.hid (HOBv2.out.keep hb)
  have HORv3 := Lib.hid (HORv2.out.keep hb)
  have HNAv3 := Lib.hid (HNAv2.out.keep hb)
  have HNLv3 := Lib.hid (HNLv2.out.keep hb)
  have HXv3 := Lib.hid (etr HXv2.out hb)
  clear hb
  go_upto_region 3 with (first | (refine wp_stN 25 [.int .i64 c.T.id, .string c.T.name, .int .i64 c.T.len, .int .i64 c.T.speed, .int .i64 c.T.accel, .int .i64 c.T.service, .int .i64 c.T.emergency, .int .i64 c.T.delay, .int .i64 c.T.cons, .int .i64 c.T.rate, .int .i64 c.mode, .int .i64 c.brake, .int .i64 c.next, .int .i64 E0.min, .int .i64 E0.max, .int .i64 E0.speed, .int .i64 c.seq, .int .i64 c.en, .slice A1 c.p.length c1, .slice L1 c.k.length d1, .int .i64 c.peer, .int .i64 c.out, .int .i64 c.inn, .int .i64 c.heard, .bool c.known, .int .i64 c.since] [.int .i64 E0.min, .int .i64 E0.max, .int .i64 E0.speed] rfl rfl rfl (HOBv3.out) rfl szEst rfl (by show (13 + 3 : Nat) ≤ 26; decide) rfl ?_; intro w5 H5))
  have HOBv4 := Lib.hid (H5.out.1)
  have HORv4 := Lib.hid (HORv3.out.only H5.out.2 (by omega))
  have HNAv4 := Lib.hid (HNAv3.out.only H5.out.2 (by omega))
  have HNLv4 := Lib.hid (HNLv3.out.only H5.out.2 (by omega))
  have HXv4 := Lib.hid (eonly HXv3.out H5.out.2 (by omega))
  clear H5
  dsimp only [Act.put]
  have HS0 : Hid (MeaS w w1.heap.size c A1 L1 c1 d1 c.next E0 w5) := ⟨HXv4.out, HOBv4.out, HORv4.out, HNAv4.out, HNLv4.out⟩
  go_wp2_with fail
  go_loopg [28] rs.length (fun g i wr => ∃ (j : Nat) (n : Int) (E : Es), i = .int .i64 j ∧ j ≤ rs.length ∧ g = rs.length - j ∧ Hid (MeaS w w1.heap.size c A1 L1 c1 d1 n E wr))
  case atStart => exact ⟨0, c.next, E0, rfl, by omega, rfl, HS0.out⟩
  case round =>
    obtain ⟨j, n, E, rfl, hj, hg, H⟩ := hrel
    have HG := Lib.hid hg
    have HB5 := Lib.hid H.out.b
    have HR5 := Lib.hid H.out.r
    have HA5 := Lib.hid H.out.a
    have HL5 := Lib.hid H.out.l
    have HX5 := Lib.hid H.out.ext
    have zr := H.out.r.1
    clear hg H
    by_cases hlt : j < rs.length
    · obtain ⟨b, off, s, rfl, hs, hbs, s0, s1⟩ := rd_rea HRR.out HX5.out hlt
      clear hs
      go_upto_region 6 with (fail)
      obtain ⟨w6, hw6⟩ : ∃ x, x = wr.alloc (.cells #[.int .i64 s.id, .int .i64 s.off] 102) := ⟨_, rfl⟩
      have g6 : Ext wr w6 := by rw [hw6]; exact eal (Ext.refl _) _
      have O6 : Own w6 wr.heap.size [.int .i64 s.id, .int .i64 s.off] := by rw [hw6]; exact Own.new rfl
      rw [← hw6]
      clear hw6 s0 s1 hbs
      have HOBv1 := Lib.hid (HB5.out.keep g6)
      have HORv1 := Lib.hid (HR5.out.keep g6)
      have HNAv1 := Lib.hid (HA5.out.keep g6)
      have HNLv1 := Lib.hid (HL5.out.keep g6)
      have HXv1 := Lib.hid (etr HX5.out g6)
      have HD6 := Lib.hid O6
      clear g6 O6
      have a12 := HOBv1.out.cells.2 12 _ rfl
      have a19 := HOBv1.out.cells.2 19 _ rfl
      have az := HOBv1.out.cells.1
      have d0 := HD6.out.cells.2 0 _ rfl
      have dz := HD6.out.cells.1
      go_wp2_with fail
      refine (read_any c.k L1 d1 n s.id _ hk HNLv1.out.1).mono ?_
      rintro e w7 ⟨n2, v2, rfl, hn0, hn1, hv, rfl⟩
      have af := HOBv1.out.2.2
      go_upto_region 8 with (fail)
      obtain ⟨w8, hw8⟩ : ∃ x, x = (w6.setCell ⟨w.heap.size, 12, none⟩ (.int .i64 n2)) := ⟨_, rfl⟩
      obtain ⟨Ow8, Nw8⟩ := setN_at HOBv1.out 12 [.int .i64 n2] (ws := [.int .i64 c.T.id, .string c.T.name, .int .i64 c.T.len, .int .i64 c.T.speed, .int .i64 c.T.accel, .int .i64 c.T.service, .int .i64 c.T.emergency, .int .i64 c.T.delay, .int .i64 c.T.cons, .int .i64 c.T.rate, .int .i64 c.mode, .int .i64 c.brake, .int .i64 n2, .int .i64 E.min, .int .i64 E.max, .int .i64 E.speed, .int .i64 c.seq, .int .i64 c.en, .slice A1 c.p.length c1, .slice L1 c.k.length d1, .int .i64 c.peer, .int .i64 c.out, .int .i64 c.inn, .int .i64 c.heard, .bool c.known, .int .i64 c.since]) rfl (by simp) hw8
      rw [← hw8]
      clear hw8
      have HOBv2 := Lib.hid (Ow8)
      have HORv2 := Lib.hid (HORv1.out.only Nw8 (by omega))
      have HODv2 := Lib.hid (HD6.out.only Nw8 (by omega))
      have HNAv2 := Lib.hid (HNAv1.out.only Nw8 (by omega))
      have HNLv2 := Lib.hid (HNLv1.out.only Nw8 (by omega))
      have HXv2 := Lib.hid (eonly HXv1.out Nw8 (by omega))
      clear Ow8 Nw8
      clear a12 a19 az d0 dz af
      rcases hv with rfl | ⟨hv, hn2⟩
      · go_wp2
        go_roundg (rs.length - (j + 1))
        case measure => have := HG.out; omega
        case rel => exact ⟨j + 1, n2, E, by go_num, by omega, rfl, HXv2.out, HOBv2.out, HORv2.out, HNAv2.out, HNLv2.out⟩
      · obtain ⟨k, rfl⟩ : ∃ k : Nat, n2 = (k : Int) + 1 := ⟨(n2 - 1).toNat, by omega⟩
        have q1 : decide ((k : Int) + 1 < 1) = false := decide_eq_false (by omega)
        have q2 : decide ((c.k.length : Int) < (k : Int) + 1) = false := decide_eq_false (by omega)
        have hkl : k < c.k.length := by omega
        have hw1 : IntKind.i64.wrap ((k : Int) + 1 - 1) = (k : Int) := by rw [show (k : Int) + 1 - 1 = k by omega]; exact IntWalk.i64_in _ (by omega)
        have hw2 : IntKind.i64.wrap (k : Int) = (k : Int) := IntWalk.i64_in _ (by omega)
        have hkn : (k : Int) < (c.k.length : Int) := by omega
        obtain ⟨E2, hE2⟩ : ∃ q, q = fixV c.T.cons c.T.rate E (c.k.getD k Lnk.z).at_ s.off := ⟨_, rfl⟩
        obtain ⟨e2, he2⟩ : ∃ q, q = fixE c.T.cons c.T.rate E (c.k.getD k Lnk.z).at_ s.off := ⟨_, rfl⟩
        obtain ⟨b2, off2, t, rfl, ht, hbt, t0, t1⟩ := rd_lnk HNLv2.out.1 (Ext.refl _) hkl
        rw [getD_at ht] at hE2 he2
        have HFX : Hid (∀ x, Calls Tryd.prog 59 #[.agg #[.int .i64 c.T.id, .string c.T.name, .int .i64 c.T.len, .int .i64 c.T.speed, .int .i64 c.T.accel, .int .i64 c.T.service, .int .i64 c.T.emergency, .int .i64 c.T.delay, .int .i64 c.T.cons, .int .i64 c.T.rate], .agg #[.int .i64 E.min, .int .i64 E.max, .int .i64 E.speed], .int .i64 t.at_, .int .i64 s.off] x fun e w' => e = .returned (.tuple #[.agg #[.int .i64 E2.min, .int .i64 E2.max, .int .i64 E2.speed], .int .i64 e2]) ∧ Below x.heap.size x w') := fun x => by rw [hE2, he2]; exact fix_any c.T E t.at_ s.off x HOK.out.tr.cons HOK.out.tr.rate
        clear hE2 he2 ht
        have a19 := HOBv2.out.cells.2 19 _ rfl
        have az := HOBv2.out.cells.1
        rcases hv with rfl | rfl
        · go_upto_region 10 with (fail)
          have b0 := HOBv2.out.cells.2 0 _ rfl
          have b1 := HOBv2.out.cells.2 1 _ rfl
          have b2 := HOBv2.out.cells.2 2 _ rfl
          have b3 := HOBv2.out.cells.2 3 _ rfl
          have b4 := HOBv2.out.cells.2 4 _ rfl
          have b5 := HOBv2.out.cells.2 5 _ rfl
          have b6 := HOBv2.out.cells.2 6 _ rfl
          have b7 := HOBv2.out.cells.2 7 _ rfl
          have b8 := HOBv2.out.cells.2 8 _ rfl
          have b9 := HOBv2.out.cells.2 9 _ rfl
          have b13 := HOBv2.out.cells.2 13 _ rfl
          have b14 := HOBv2.out.cells.2 14 _ rfl
          have b15 := HOBv2.out.cells.2 15 _ rfl
          have d1' := HODv2.out.cells.2 1 _ rfl
          have dz := HODv2.out.cells.1
          refine wp_region_monoB [0, 1, 2, 3, 4, 5, 6, 7, 8, 9, 10, 11, 12, 13, 14, 15, 16, 17] 3 (by kernel_rfl) (by kernel_rfl) (fun _ _ d _ _ h => by cases d <;> exact h) (by kernel_rfl) (by kernel_rfl) ?_
          repeat (refine wpE_step rfl (fun K hK => ?_); go_simp; (first
            | (refine hK _ ?_; clear hK K)
            | (apply Exists.intro
               refine ⟨fun x => ?_, hK _ ?_⟩
               (go_at_call 59; exact HFX.out _)
               clear hK K)))
          refine wpE_nil ?_
          intro x
          refine wpAnyB_ready (rs := [18]) (by kernel_rfl) (by simp) (AllB.cons rfl (fun K hK => ?_) AllB.nil)
          go_simp
          refine hK _ _ (ext_below (eal (Ext.refl _) _) (esz x.is)) (fun z => ?_)
          clear hK K
          have Oz := Lib.hid ((Own.new (w := x.val) (cs := #[.int .i64 0, .int .i64 0, .int .i64 0]) (t := 25) rfl).keep z.is)
          have sx := x.is.size
          refine wpAnyB_ready (rs := [19]) (by kernel_rfl) (by simp) (AllB.cons rfl (fun K hK => ?_) AllB.nil)
          rw [if_pos (by rfl)]
          refine wpo_stN 25 [.int .i64 E2.min, .int .i64 E2.max, .int .i64 E2.speed] [.int .i64 E2.min, .int .i64 E2.max, .int .i64 E2.speed] rfl rfl (Oz.out) rfl szEst rfl (by show (0 + 3 : Nat) ≤ 3; decide) rfl ?_; intro w9 H9
          refine hK _ _ (Below.only (Below.refl _ _) H9.out.2 sx) (fun z4 => ?_)
          clear hK K
          refine wpAnyB_ready (rs := [20]) (by kernel_rfl) (by simp) (AllB.cons rfl (fun K hK => ?_) AllB.nil)
          go_simp
          refine hK _ _ (Below.refl _ _) (fun z5 => ?_)
          clear hK K
          refine wpAnyB_done (by kernel_rfl) ?_ _
          have hz := etr (etr (eonly (etr (eal x.is _) z.is) H9.out.2 sx) z4.is) z5.is
          have HM := Lib.hid ((H9.out.1.keep z4.is).keep z5.is)
          clear b0 b1 b2 b3 b4 b5 b6 b7 b8 b9 b13 b14 b15 d1' dz a19 az
          have HOBv3 := Lib.hid (HOBv2.out.keep hz)
          have HORv3 := Lib.hid (HORv2.out.keep hz)
          have HODv3 := Lib.hid (HODv2.out.keep hz)
          have HNAv3 := Lib.hid (HNAv2.out.keep hz)
          have HNLv3 := Lib.hid (HNLv2.out.keep hz)
          have HXv3 := Lib.hid (etr HXv2.out hz)
          clear hz
          cases qe : (e2 == 0)
          · go_wp2
            go_roundg (rs.length - (j + 1))
            case measure => have := HG.out; omega
            case rel => exact ⟨j + 1, _, E, by go_num, by omega, rfl, HXv3.out, HOBv3.out, HORv3.out, HNAv3.out, HNLv3.out⟩
          · obtain rfl : e2 = 0 := by simpa using qe
            go_upto_region 13 with (first | (refine wp_ldN 25 [.int .i64 E2.min, .int .i64 E2.max, .int .i64 E2.speed] rfl rfl rfl (HM.out).cells Tryd.underlying25 szEst rfl ?_) | (refine wp_stN 25 [.int .i64 c.T.id, .string c.T.name, .int .i64 c.T.len, .int .i64 c.T.speed, .int .i64 c.T.accel, .int .i64 c.T.service, .int .i64 c.T.emergency, .int .i64 c.T.delay, .int .i64 c.T.cons, .int .i64 c.T.rate, .int .i64 c.mode, .int .i64 c.brake, .int .i64 ((k : Int) + 1), .int .i64 E2.min, .int .i64 E2.max, .int .i64 E2.speed, .int .i64 c.seq, .int .i64 c.en, .slice A1 c.p.length c1, .slice (some ⟨b2, off2, none⟩) c.k.length d1, .int .i64 c.peer, .int .i64 c.out, .int .i64 c.inn, .int .i64 c.heard, .bool c.known, .int .i64 c.since] [.int .i64 E2.min, .int .i64 E2.max, .int .i64 E2.speed] rfl rfl rfl (HOBv3.out) rfl szEst rfl (by show (13 + 3 : Nat) ≤ 26; decide) rfl ?_; intro w10 H10))
            have HOBv4 := Lib.hid (H10.out.1)
            have HORv4 := Lib.hid (HORv3.out.only H10.out.2 (by omega))
            have HODv4 := Lib.hid (HODv3.out.only H10.out.2 (by omega))
            have HNAv4 := Lib.hid (HNAv3.out.only H10.out.2 (by omega))
            have HNLv4 := Lib.hid (HNLv3.out.only H10.out.2 (by omega))
            have HXv4 := Lib.hid (eonly HXv3.out H10.out.2 (by omega))
            dsimp only [Act.put]
            go_wp2
            go_roundg (rs.length - (j + 1))
            case measure => have := HG.out; omega
            case rel => exact ⟨j + 1, _, E2, by go_num, by omega, rfl, HXv4.out, HOBv4.out, HORv4.out, HNAv4.out, HNLv4.out⟩
        · go_upto_region 10 with (fail)
          have b0 := HOBv2.out.cells.2 0 _ rfl
          have b1 := HOBv2.out.cells.2 1 _ rfl
          have b2 := HOBv2.out.cells.2 2 _ rfl
          have b3 := HOBv2.out.cells.2 3 _ rfl
          have b4 := HOBv2.out.cells.2 4 _ rfl
          have b5 := HOBv2.out.cells.2 5 _ rfl
          have b6 := HOBv2.out.cells.2 6 _ rfl
          have b7 := HOBv2.out.cells.2 7 _ rfl
          have b8 := HOBv2.out.cells.2 8 _ rfl
          have b9 := HOBv2.out.cells.2 9 _ rfl
          have b13 := HOBv2.out.cells.2 13 _ rfl
          have b14 := HOBv2.out.cells.2 14 _ rfl
          have b15 := HOBv2.out.cells.2 15 _ rfl
          have d1' := HODv2.out.cells.2 1 _ rfl
          have dz := HODv2.out.cells.1
          refine wp_region_monoB [0, 1, 2, 3, 4, 5, 6, 7, 8, 9, 10, 11, 12, 13, 14, 15, 16, 17] 3 (by kernel_rfl) (by kernel_rfl) (fun _ _ d _ _ h => by cases d <;> exact h) (by kernel_rfl) (by kernel_rfl) ?_
          repeat (refine wpE_step rfl (fun K hK => ?_); go_simp; (first
            | (refine hK _ ?_; clear hK K)
            | (apply Exists.intro
               refine ⟨fun x => ?_, hK _ ?_⟩
               (go_at_call 59; exact HFX.out _)
               clear hK K)))
          refine wpE_nil ?_
          intro x
          refine wpAnyB_ready (rs := [18]) (by kernel_rfl) (by simp) (AllB.cons rfl (fun K hK => ?_) AllB.nil)
          go_simp
          refine hK _ _ (ext_below (eal (Ext.refl _) _) (esz x.is)) (fun z => ?_)
          clear hK K
          have Oz := Lib.hid ((Own.new (w := x.val) (cs := #[.int .i64 0, .int .i64 0, .int .i64 0]) (t := 25) rfl).keep z.is)
          have sx := x.is.size
          refine wpAnyB_ready (rs := [19]) (by kernel_rfl) (by simp) (AllB.cons rfl (fun K hK => ?_) AllB.nil)
          rw [if_pos (by rfl)]
          refine wpo_stN 25 [.int .i64 E2.min, .int .i64 E2.max, .int .i64 E2.speed] [.int .i64 E2.min, .int .i64 E2.max, .int .i64 E2.speed] rfl rfl (Oz.out) rfl szEst rfl (by show (0 + 3 : Nat) ≤ 3; decide) rfl ?_; intro w9 H9
          refine hK _ _ (Below.only (Below.refl _ _) H9.out.2 sx) (fun z4 => ?_)
          clear hK K
          refine wpAnyB_ready (rs := [20]) (by kernel_rfl) (by simp) (AllB.cons rfl (fun K hK => ?_) AllB.nil)
          go_simp
          refine hK _ _ (Below.refl _ _) (fun z5 => ?_)
          clear hK K
          refine wpAnyB_done (by kernel_rfl) ?_ _
          have hz := etr (etr (eonly (etr (eal x.is _) z.is) H9.out.2 sx) z4.is) z5.is
          have HM := Lib.hid ((H9.out.1.keep z4.is).keep z5.is)
          clear b0 b1 b2 b3 b4 b5 b6 b7 b8 b9 b13 b14 b15 d1' dz a19 az
          have HOBv3 := Lib.hid (HOBv2.out.keep hz)
          have HORv3 := Lib.hid (HORv2.out.keep hz)
          have HODv3 := Lib.hid (HODv2.out.keep hz)
          have HNAv3 := Lib.hid (HNAv2.out.keep hz)
          have HNLv3 := Lib.hid (HNLv2.out.keep hz)
          have HXv3 := Lib.hid (etr HXv2.out hz)
          clear hz
          cases qe : (e2 == 0)
          · go_wp2
            go_roundg (rs.length - (j + 1))
            case measure => have := HG.out; omega
            case rel => exact ⟨j + 1, _, E, by go_num, by omega, rfl, HXv3.out, HOBv3.out, HORv3.out, HNAv3.out, HNLv3.out⟩
          · obtain rfl : e2 = 0 := by simpa using qe
            go_upto_region 13 with (first | (refine wp_ldN 25 [.int .i64 E2.min, .int .i64 E2.max, .int .i64 E2.speed] rfl rfl rfl (HM.out).cells Tryd.underlying25 szEst rfl ?_) | (refine wp_stN 25 [.int .i64 c.T.id, .string c.T.name, .int .i64 c.T.len, .int .i64 c.T.speed, .int .i64 c.T.accel, .int .i64 c.T.service, .int .i64 c.T.emergency, .int .i64 c.T.delay, .int .i64 c.T.cons, .int .i64 c.T.rate, .int .i64 c.mode, .int .i64 c.brake, .int .i64 ((k : Int) + 1), .int .i64 E2.min, .int .i64 E2.max, .int .i64 E2.speed, .int .i64 c.seq, .int .i64 c.en, .slice A1 c.p.length c1, .slice (some ⟨b2, off2, none⟩) c.k.length d1, .int .i64 c.peer, .int .i64 c.out, .int .i64 c.inn, .int .i64 c.heard, .bool c.known, .int .i64 c.since] [.int .i64 E2.min, .int .i64 E2.max, .int .i64 E2.speed] rfl rfl rfl (HOBv3.out) rfl szEst rfl (by show (13 + 3 : Nat) ≤ 26; decide) rfl ?_; intro w10 H10))
            have HOBv4 := Lib.hid (H10.out.1)
            have HORv4 := Lib.hid (HORv3.out.only H10.out.2 (by omega))
            have HODv4 := Lib.hid (HODv3.out.only H10.out.2 (by omega))
            have HNAv4 := Lib.hid (HNAv3.out.only H10.out.2 (by omega))
            have HNLv4 := Lib.hid (HNLv3.out.only H10.out.2 (by omega))
            have HXv4 := Lib.hid (eonly HXv3.out H10.out.2 (by omega))
            dsimp only [Act.put]
            go_wp2
            go_roundg (rs.length - (j + 1))
            case measure => have := HG.out; omega
            case rel => exact ⟨j + 1, _, E2, by go_num, by omega, rfl, HXv4.out, HOBv4.out, HORv4.out, HNAv4.out, HNLv4.out⟩
    · have a12 := HB5.out.cells.2 12 _ rfl
      have a19 := HB5.out.cells.2 19 _ rfl
      have az := HB5.out.cells.1
      go_wp2_with (first | (refine wp_ldN 25 [.int .i64 E.min, .int .i64 E.max, .int .i64 E.speed] rfl rfl rfl (HB5.out).cells Tryd.underlying25 szEst rfl ?_))
      refine (overdue_any c.k L1 d1 n E _ hk HOK.out.lk HL5.out.1).mono ?_
      rintro e w6 ⟨n3, rfl, hb⟩
      clear a12 a19 az
      have HOBv1 := Lib.hid (HB5.out.keep hb)
      have HORv1 := Lib.hid (HR5.out.keep hb)
      have HNAv1 := Lib.hid (HA5.out.keep hb)
      have HNLv1 := Lib.hid (HL5.out.keep hb)
      have HXv1 := Lib.hid (etr HX5.out hb)
      clear hb
      have a12 := HOBv1.out.cells.2 12 _ rfl
      have az := HOBv1.out.cells.1
      have af := HOBv1.out.2.2
      go_upto_region 15 with (fail)
      obtain ⟨w7, hw7⟩ : ∃ x, x = (w6.setCell ⟨w.heap.size, 12, none⟩ (.int .i64 n3)) := ⟨_, rfl⟩
      obtain ⟨Ow7, Nw7⟩ := setN_at HOBv1.out 12 [.int .i64 n3] (ws := [.int .i64 c.T.id, .string c.T.name, .int .i64 c.T.len, .int .i64 c.T.speed, .int .i64 c.T.accel, .int .i64 c.T.service, .int .i64 c.T.emergency, .int .i64 c.T.delay, .int .i64 c.T.cons, .int .i64 c.T.rate, .int .i64 c.mode, .int .i64 c.brake, .int .i64 n3, .int .i64 E.min, .int .i64 E.max, .int .i64 E.speed, .int .i64 c.seq, .int .i64 c.en, .slice A1 c.p.length c1, .slice L1 c.k.length d1, .int .i64 c.peer, .int .i64 c.out, .int .i64 c.inn, .int .i64 c.heard, .bool c.known, .int .i64 c.since]) rfl (by simp) hw7
      rw [← hw7]
      clear hw7
      have HOBv2 := Lib.hid (Ow7)
      have HORv2 := Lib.hid (HORv1.out.only Nw7 (by omega))
      have HNAv2 := Lib.hid (HNAv1.out.only Nw7 (by omega))
      have HNLv2 := Lib.hid (HNLv1.out.only Nw7 (by omega))
      have HXv2 := Lib.hid (eonly HXv1.out Nw7 (by omega))
      clear Ow7 Nw7
      clear a12 az af
      cases wh
      · go_wp2_with (first | (refine wp_ldN 35 [.int .i64 c.T.id, .string c.T.name, .int .i64 c.T.len, .int .i64 c.T.speed, .int .i64 c.T.accel, .int .i64 c.T.service, .int .i64 c.T.emergency, .int .i64 c.T.delay, .int .i64 c.T.cons, .int .i64 c.T.rate, .int .i64 c.mode, .int .i64 c.brake, .int .i64 n3, .int .i64 E.min, .int .i64 E.max, .int .i64 E.speed, .int .i64 c.seq, .int .i64 c.en, .slice A1 c.p.length c1, .slice L1 c.k.length d1, .int .i64 c.peer, .int .i64 c.out, .int .i64 c.inn, .int .i64 c.heard, .bool c.known, .int .i64 c.since] rfl rfl rfl (HOBv2.out).cells Tryd.underlying35 szCab rfl ?_) | (refine wp_stN 35 [.int .i64 c.T.id, .string c.T.name, .int .i64 c.T.len, .int .i64 c.T.speed, .int .i64 c.T.accel, .int .i64 c.T.service, .int .i64 c.T.emergency, .int .i64 c.T.delay, .int .i64 c.T.cons, .int .i64 c.T.rate, .int .i64 c.mode, .int .i64 c.brake, .int .i64 n3, .int .i64 E.min, .int .i64 E.max, .int .i64 E.speed, .int .i64 c.seq, .int .i64 c.en, .slice A1 c.p.length c1, .slice L1 c.k.length d1, .int .i64 c.peer, .int .i64 c.out, .int .i64 c.inn, .int .i64 c.heard, .bool c.known, .int .i64 c.since] [.int .i64 c.T.id, .string c.T.name, .int .i64 c.T.len, .int .i64 c.T.speed, .int .i64 c.T.accel, .int .i64 c.T.service, .int .i64 c.T.emergency, .int .i64 c.T.delay, .int .i64 c.T.cons, .int .i64 c.T.rate, .int .i64 c.mode, .int .i64 c.brake, .int .i64 n3, .int .i64 E.min, .int .i64 E.max, .int .i64 E.speed, .int .i64 c.seq, .int .i64 c.en, .slice A1 c.p.length c1, .slice L1 c.k.length d1, .int .i64 c.peer, .int .i64 c.out, .int .i64 c.inn, .int .i64 c.heard, .bool c.known, .int .i64 c.since] rfl rfl rfl (HORv2.out) rfl szCab rfl (by show (0 + 26 : Nat) ≤ 26; decide) rfl ?_; intro w9 H9))
        refine bodyPost_ret (res_c (by rfl) (by rfl) H9.out.1.cells Tryd.underlying35 szCab) rfl ⟨{ c with next := n3, E := E, known := c.known, since := c.since }, rfl, A1, c1, L1, d1, rfl, (HNAv2.out.only H9.out.2 (by omega)).mono (by omega), (HNLv2.out.only H9.out.2 (by omega)).mono (by omega), eonly HXv2.out H9.out.2 (by omega)⟩
      · go_wp2_with (first | (refine wp_ldN 33 [.bool c.known, .int .i64 c.since] rfl rfl rfl (HOBv2.out).cells Tryd.underlying33 szTai rfl ?_))
        refine (confirm_any c.known c.since now _).mono ?_
        rintro e w8 ⟨rfl, hb⟩
        have HOBv3 := Lib.hid (HOBv2.out.keep hb)
        have HORv3 := Lib.hid (HORv2.out.keep hb)
        have HNAv3 := Lib.hid (HNAv2.out.keep hb)
        have HNLv3 := Lib.hid (HNLv2.out.keep hb)
        have HXv3 := Lib.hid (etr HXv2.out hb)
        clear hb
        go_upto_region 17 with (first | (refine wp_stN 33 [.int .i64 c.T.id, .string c.T.name, .int .i64 c.T.len, .int .i64 c.T.speed, .int .i64 c.T.accel, .int .i64 c.T.service, .int .i64 c.T.emergency, .int .i64 c.T.delay, .int .i64 c.T.cons, .int .i64 c.T.rate, .int .i64 c.mode, .int .i64 c.brake, .int .i64 n3, .int .i64 E.min, .int .i64 E.max, .int .i64 E.speed, .int .i64 c.seq, .int .i64 c.en, .slice A1 c.p.length c1, .slice L1 c.k.length d1, .int .i64 c.peer, .int .i64 c.out, .int .i64 c.inn, .int .i64 c.heard, .bool true, .int .i64 now] [.bool true, .int .i64 now] rfl rfl rfl (HOBv3.out) rfl szTai rfl (by show (24 + 2 : Nat) ≤ 26; decide) rfl ?_; intro w10 H10))
        have HOBv4 := Lib.hid (H10.out.1)
        have HORv4 := Lib.hid (HORv3.out.only H10.out.2 (by omega))
        have HNAv4 := Lib.hid (HNAv3.out.only H10.out.2 (by omega))
        have HNLv4 := Lib.hid (HNLv3.out.only H10.out.2 (by omega))
        have HXv4 := Lib.hid (eonly HXv3.out H10.out.2 (by omega))
        clear H10
        dsimp only [Act.put]
        go_wp2_with (first | (refine wp_ldN 35 [.int .i64 c.T.id, .string c.T.name, .int .i64 c.T.len, .int .i64 c.T.speed, .int .i64 c.T.accel, .int .i64 c.T.service, .int .i64 c.T.emergency, .int .i64 c.T.delay, .int .i64 c.T.cons, .int .i64 c.T.rate, .int .i64 c.mode, .int .i64 c.brake, .int .i64 n3, .int .i64 E.min, .int .i64 E.max, .int .i64 E.speed, .int .i64 c.seq, .int .i64 c.en, .slice A1 c.p.length c1, .slice L1 c.k.length d1, .int .i64 c.peer, .int .i64 c.out, .int .i64 c.inn, .int .i64 c.heard, .bool true, .int .i64 now] rfl rfl rfl (HOBv4.out).cells Tryd.underlying35 szCab rfl ?_) | (refine wp_stN 35 [.int .i64 c.T.id, .string c.T.name, .int .i64 c.T.len, .int .i64 c.T.speed, .int .i64 c.T.accel, .int .i64 c.T.service, .int .i64 c.T.emergency, .int .i64 c.T.delay, .int .i64 c.T.cons, .int .i64 c.T.rate, .int .i64 c.mode, .int .i64 c.brake, .int .i64 n3, .int .i64 E.min, .int .i64 E.max, .int .i64 E.speed, .int .i64 c.seq, .int .i64 c.en, .slice A1 c.p.length c1, .slice L1 c.k.length d1, .int .i64 c.peer, .int .i64 c.out, .int .i64 c.inn, .int .i64 c.heard, .bool true, .int .i64 now] [.int .i64 c.T.id, .string c.T.name, .int .i64 c.T.len, .int .i64 c.T.speed, .int .i64 c.T.accel, .int .i64 c.T.service, .int .i64 c.T.emergency, .int .i64 c.T.delay, .int .i64 c.T.cons, .int .i64 c.T.rate, .int .i64 c.mode, .int .i64 c.brake, .int .i64 n3, .int .i64 E.min, .int .i64 E.max, .int .i64 E.speed, .int .i64 c.seq, .int .i64 c.en, .slice A1 c.p.length c1, .slice L1 c.k.length d1, .int .i64 c.peer, .int .i64 c.out, .int .i64 c.inn, .int .i64 c.heard, .bool true, .int .i64 now] rfl rfl rfl (HORv4.out) rfl szCab rfl (by show (0 + 26 : Nat) ≤ 26; decide) rfl ?_; intro w9 H9))
        refine bodyPost_ret (res_c (by rfl) (by rfl) H9.out.1.cells Tryd.underlying35 szCab) rfl ⟨{ c with next := n3, E := E, known := true, since := now }, rfl, A1, c1, L1, d1, rfl, (HNAv4.out.only H9.out.2 (by omega)).mono (by omega), (HNLv4.out.only H9.out.2 (by omega)).mono (by omega), eonly HXv4.out H9.out.2 (by omega)⟩
end Go.Proofs.YtbgmknkmfhpgeaaDoor
