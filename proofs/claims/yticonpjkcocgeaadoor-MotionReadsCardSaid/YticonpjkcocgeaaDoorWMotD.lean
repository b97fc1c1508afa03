/- Walks: motion.fresh, motion.changed. Printed by gen_motd.py. -/
import Derived.Test.YticonpjkcocgeaaDoorWMotC
import Derived.Test.YticonpjkcocgeaaDoorLibStp
import Derived.Test.YticonpjkcocgeaaDoorLibSgU
import Derived.Test.YticonpjkcocgeaaDoorLibLkU
import Derived.WalkMore
import Derived.ScopeJumps
set_option linter.unusedVariables false
set_option linter.unusedSimpArgs false
set_option maxRecDepth 100000
namespace Go.Proofs.YticonpjkcocgeaaDoor
open Go.ChangeShapes Go.WideShapes Go.ChangeAt Go.RowKit
open Sg

section
set_option maxHeartbeats 16000000
/-- A scope whose jumps all go forward to one label. -/
theorem wp_scope_forward {P : Program} {a : Act} {w : World} {Q : Exit → Act → World → Prop} {c rest : Code} {l : Nat} (hf : findLabel c l = some rest)
    (h : c.wp P (Exit.jump l (fun a w => rest.wp P (Exit.noGoto Q) a w) Q) a w) : (Code.scope c).wp P Q a w :=
  wp_scope_jumps l _ (fun _ _ => 0) hf h (fun a w hJ => Code.wp_mono (fun e a' w' he => by cases e <;> first | exact he | exact he.elim) hJ)
/-- A unit's lists lie in blocks from n on. -/
structure UntN (n : Nat) (w : World) (A : Option Addr) (way : List Stp) (c : Nat) (C : Cu) (B : Option Addr) (cb : Nat) (K : Option Addr) (ck : Nat) : Prop where
  s : RdN n w A 3 Stc way
  sc : way.length ≤ c
  p : RdN n w B 4 Sgc C.p
  pc : C.p.length ≤ cb
  k : RdN n w K 2 Lkc C.k
  kc : C.k.length ≤ ck
theorem UntN.keep {n : Nat} {w w' : World} {A : Option Addr} {way : List Stp} {c : Nat} {C : Cu} {B : Option Addr} {cb : Nat} {K : Option Addr} {ck : Nat} (h : UntN n w A way c C B cb K ck) (g : Below w.heap.size w w') : UntN n w' A way c C B cb K ck := ⟨h.s.keep g, h.sc, h.p.keep g, h.pc, h.k.keep g, h.kc⟩
theorem UntN.only {n b : Nat} {w w' : World} {A : Option Addr} {way : List Stp} {c : Nat} {C : Cu} {B : Option Addr} {cb : Nat} {K : Option Addr} {ck : Nat} (h : UntN n w A way c C B cb K ck) (g : Only b w w') (hb : b < n) : UntN n w' A way c C B cb K ck := ⟨h.s.only g hb, h.sc, h.p.only g hb, h.pc, h.k.only g hb, h.kc⟩
theorem UntN.mono {n m : Nat} {w : World} {A : Option Addr} {way : List Stp} {c : Nat} {C : Cu} {B : Option Addr} {cb : Nat} {K : Option Addr} {ck : Nat} (h : UntN n w A way c C B cb K ck) (g : m ≤ n) : UntN m w A way c C B cb K ck := ⟨h.s.mono g, h.sc, h.p.mono g, h.pc, h.k.mono g, h.kc⟩
theorem fresh_any (A : Option Addr) (way : List Stp) (c : Nat) (head len speed x br : Int) (C : Cu) (B : Option Addr) (cb : Nat) (K : Option Addr) (ck : Nat) (w : World) (hr : Rd w A 3 Stc way) (hm : way.length ≤ 200) (hp : Rd w B 4 Sgc C.p) (hpm : C.p.length ≤ 1000) (hk : Rd w K 2 Lkc C.k) (hkm : C.k.length ≤ 1000) :
    Calls Tryd.prog 44 #[.agg #[.slice A way.length c, .int .i64 head, .int .i64 len, .int .i64 speed, .int .i64 x, .int .i64 br, .int .i64 C.T.id, .string C.T.name, .int .i64 C.T.len, .int .i64 C.T.speed, .int .i64 C.T.accel, .int .i64 C.T.service, .int .i64 C.T.emergency, .int .i64 C.T.delay, .int .i64 C.T.cons, .int .i64 C.T.rate, .int .i64 C.mode, .int .i64 C.brake, .int .i64 C.next, .int .i64 C.emin, .int .i64 C.emax, .int .i64 C.espeed, .int .i64 C.seq, .int .i64 C.en, .slice B C.p.length cb, .slice K C.k.length ck, .int .i64 C.peer, .int .i64 C.out, .int .i64 C.inn, .int .i64 C.heard, .bool C.known, .int .i64 C.since]] w fun e w' => ∃ A' c' B' cb' K' ck', e = .returned (.agg #[.slice A' way.length c', .int .i64 head, .int .i64 len, .int .i64 speed, .int .i64 x, .int .i64 br, .int .i64 C.T.id, .string C.T.name, .int .i64 C.T.len, .int .i64 C.T.speed, .int .i64 C.T.accel, .int .i64 C.T.service, .int .i64 C.T.emergency, .int .i64 C.T.delay, .int .i64 C.T.cons, .int .i64 C.T.rate, .int .i64 C.mode, .int .i64 C.brake, .int .i64 C.next, .int .i64 C.emin, .int .i64 C.emax, .int .i64 C.espeed, .int .i64 C.seq, .int .i64 C.en, .slice B' C.p.length cb', .slice K' C.k.length ck', .int .i64 C.peer, .int .i64 C.out, .int .i64 C.inn, .int .i64 C.heard, .bool C.known, .int .i64 C.since]) ∧ UntN w.heap.size w' A' way c' C B' cb' K' ck' ∧ Below w.heap.size w w' := by
  have HR := Lib.hid hr
  have HP := Lib.hid hp
  have HK := Lib.hid hk
  have HM : Hid (way.length ≤ 1000000) := by show _ ≤ _; omega
  have HPM : Hid (C.p.length ≤ 1000000) := by show _ ≤ _; omega
  have HKM : Hid (C.k.length ≤ 1000000) := by show _ ≤ _; omega
  clear hr hm hp hpm hk hkm
  go_enter Tryd.func44, Tryd.ntmps44
  go_upto_region 2 with (go_at_call 28; refine (clone_Stp A way c _ HM.out (HR.out.keep (eal (eal (Ext.refl _) _) _))).mono ?_; rintro e w1 ⟨v, rfl, ho, hb⟩; obtain ⟨A1, c1, rfl, hn1, hc1⟩ := ho.rdN Stc_len; have O1 : Hid (Own w1 w.heap.size [.slice A way.length c, .int .i64 head, .int .i64 len, .int .i64 speed, .int .i64 x, .int .i64 br, .int .i64 C.T.id, .string C.T.name, .int .i64 C.T.len, .int .i64 C.T.speed, .int .i64 C.T.accel, .int .i64 C.T.service, .int .i64 C.T.emergency, .int .i64 C.T.delay, .int .i64 C.T.cons, .int .i64 C.T.rate, .int .i64 C.mode, .int .i64 C.brake, .int .i64 C.next, .int .i64 C.emin, .int .i64 C.emax, .int .i64 C.espeed, .int .i64 C.seq, .int .i64 C.en, .slice B C.p.length cb, .slice K C.k.length ck, .int .i64 C.peer, .int .i64 C.out, .int .i64 C.inn, .int .i64 C.heard, .bool C.known, .int .i64 C.since]) := ((Own.new rfl).alloc _).keep hb; have P1 : Hid (Own w1 (w.heap.size + 1) [.slice none 0 0, .int .i64 0, .int .i64 0, .int .i64 0, .int .i64 0, .int .i64 0, .int .i64 0, .string ⟨#[]⟩, .int .i64 0, .int .i64 0, .int .i64 0, .int .i64 0, .int .i64 0, .int .i64 0, .int .i64 0, .int .i64 0, .int .i64 0, .int .i64 0, .int .i64 0, .int .i64 0, .int .i64 0, .int .i64 0, .int .i64 0, .int .i64 0, .slice none 0 0, .slice none 0 0, .int .i64 0, .int .i64 0, .int .i64 0, .int .i64 0, .bool false, .int .i64 0]) := (Own.new (by simp)).keep hb; have X1 : Hid (Ext w w1) := etr (eal (eal (Ext.refl _) _) _) hb; have N1 : Hid (RdN (w.heap.size + 2) w1 A1 3 Stc way) := hn1.mono (by simp); have C1 := Lib.hid hc1; have b0 := O1.out.2.1 0 _ rfl; have bf := O1.out.2.2 0; have bz := O1.out.1; clear ho hb hn1 hc1)
  obtain ⟨w2, hw2⟩ : ∃ x, x = w1.setCell ⟨w.heap.size, 0, none⟩ (.slice A1 way.length c1) := ⟨_, rfl⟩
  rw [← hw2]
  have Ow2 : Hid (Own w2 w.heap.size [.slice A1 way.length c1, .int .i64 head, .int .i64 len, .int .i64 speed, .int .i64 x, .int .i64 br, .int .i64 C.T.id, .string C.T.name, .int .i64 C.T.len, .int .i64 C.T.speed, .int .i64 C.T.accel, .int .i64 C.T.service, .int .i64 C.T.emergency, .int .i64 C.T.delay, .int .i64 C.T.cons, .int .i64 C.T.rate, .int .i64 C.mode, .int .i64 C.brake, .int .i64 C.next, .int .i64 C.emin, .int .i64 C.emax, .int .i64 C.espeed, .int .i64 C.seq, .int .i64 C.en, .slice B C.p.length cb, .slice K C.k.length ck, .int .i64 C.peer, .int .i64 C.out, .int .i64 C.inn, .int .i64 C.heard, .bool C.known, .int .i64 C.since]) := hw2 ▸ O1.out.set 0 (by simp) (.slice A1 way.length c1)
  have Pw2 : Hid (Own w2 (w.heap.size + 1) [.slice none 0 0, .int .i64 0, .int .i64 0, .int .i64 0, .int .i64 0, .int .i64 0, .int .i64 0, .string ⟨#[]⟩, .int .i64 0, .int .i64 0, .int .i64 0, .int .i64 0, .int .i64 0, .int .i64 0, .int .i64 0, .int .i64 0, .int .i64 0, .int .i64 0, .int .i64 0, .int .i64 0, .int .i64 0, .int .i64 0, .int .i64 0, .int .i64 0, .slice none 0 0, .slice none 0 0, .int .i64 0, .int .i64 0, .int .i64 0, .int .i64 0, .bool false, .int .i64 0]) := hw2 ▸ P1.out.only (Only.set _ _ _ _) (by omega)
  have Xw2 : Hid (Ext w w2) := hw2 ▸ eset X1.out (Nat.le_refl _) _ _
  have Nw2 : Hid (RdN (w.heap.size + 2) w2 A1 3 Stc way) := hw2 ▸ N1.out.only (Only.set _ _ _ _) (by omega)
  clear hw2 O1 P1 X1 N1 b0 bf bz w1
  have b24 := Ow2.out.2.1 24 _ rfl
  have bf := Ow2.out.2.2 24
  have bz := Ow2.out.1
  go_upto_region 3 with (go_at_call 72; refine (clone_SegU B C.p cb _ HPM.out (HP.out.keep Xw2.out)).mono ?_; rintro e w3 ⟨v, rfl, ho, hb⟩; obtain ⟨B1, cb1, rfl, hn1, hc1⟩ := ho.rdN Sgc_len; have O3 := Lib.hid (Ow2.out.keep hb); have P3 := Lib.hid (Pw2.out.keep hb); have X3 := Lib.hid (etr Xw2.out hb); have N3 := Lib.hid (Nw2.out.keep hb); have M3 : Hid (RdN (w.heap.size + 2) w3 B1 4 Sgc C.p) := hn1.mono (by have := Pw2.out.1; omega); have C2 := Lib.hid hc1; have d24 := O3.out.2.1 24 _ rfl; have df := O3.out.2.2 24; have dz := O3.out.1; clear ho hb hn1 hc1)
  obtain ⟨w4, hw4⟩ : ∃ x, x = w3.setCell ⟨w.heap.size, 24, none⟩ (.slice B1 C.p.length cb1) := ⟨_, rfl⟩
  rw [← hw4]
  have Ow4 : Hid (Own w4 w.heap.size [.slice A1 way.length c1, .int .i64 head, .int .i64 len, .int .i64 speed, .int .i64 x, .int .i64 br, .int .i64 C.T.id, .string C.T.name, .int .i64 C.T.len, .int .i64 C.T.speed, .int .i64 C.T.accel, .int .i64 C.T.service, .int .i64 C.T.emergency, .int .i64 C.T.delay, .int .i64 C.T.cons, .int .i64 C.T.rate, .int .i64 C.mode, .int .i64 C.brake, .int .i64 C.next, .int .i64 C.emin, .int .i64 C.emax, .int .i64 C.espeed, .int .i64 C.seq, .int .i64 C.en, .slice B1 C.p.length cb1, .slice K C.k.length ck, .int .i64 C.peer, .int .i64 C.out, .int .i64 C.inn, .int .i64 C.heard, .bool C.known, .int .i64 C.since]) := hw4 ▸ O3.out.set 24 (by simp) (.slice B1 C.p.length cb1)
  have Pw4 : Hid (Own w4 (w.heap.size + 1) [.slice none 0 0, .int .i64 0, .int .i64 0, .int .i64 0, .int .i64 0, .int .i64 0, .int .i64 0, .string ⟨#[]⟩, .int .i64 0, .int .i64 0, .int .i64 0, .int .i64 0, .int .i64 0, .int .i64 0, .int .i64 0, .int .i64 0, .int .i64 0, .int .i64 0, .int .i64 0, .int .i64 0, .int .i64 0, .int .i64 0, .int .i64 0, .int .i64 0, .slice none 0 0, .slice none 0 0, .int .i64 0, .int .i64 0, .int .i64 0, .int .i64 0, .bool false, .int .i64 0]) := hw4 ▸ P3.out.only (Only.set _ _ _ _) (by omega)
  have Xw4 : Hid (Ext w w4) := hw4 ▸ eset X3.out (Nat.le_refl _) _ _
  have Nw4 : Hid (RdN (w.heap.size + 2) w4 A1 3 Stc way) := hw4 ▸ N3.out.only (Only.set _ _ _ _) (by omega)
  have Mw4 : Hid (RdN (w.heap.size + 2) w4 B1 4 Sgc C.p) := hw4 ▸ M3.out.only (Only.set _ _ _ _) (by omega)
  clear hw4 O3 P3 X3 N3 M3 b24 bf bz d24 df dz Ow2 Pw2 Xw2 Nw2 w3 w2
  have b25 := Ow4.out.2.1 25 _ rfl
  have bf := Ow4.out.2.2 25
  have bz := Ow4.out.1
  go_upto_region 4 with (go_at_call 73; refine (clone_Lnk K C.k ck _ HKM.out (HK.out.keep Xw4.out)).mono ?_; rintro e w5 ⟨v, rfl, ho, hb⟩; obtain ⟨K1, ck1, rfl, hn1, hc1⟩ := ho.rdN Lkc_len; have O5 := Lib.hid (Ow4.out.keep hb); have P5 := Lib.hid (Pw4.out.keep hb); have X5 := Lib.hid (etr Xw4.out hb); have N5 := Lib.hid (Nw4.out.keep hb); have M5 := Lib.hid (Mw4.out.keep hb); have Q5 : Hid (RdN (w.heap.size + 2) w5 K1 2 Lkc C.k) := hn1.mono (by have := Pw4.out.1; omega); have C3 := Lib.hid hc1; have d25 := O5.out.2.1 25 _ rfl; have df := O5.out.2.2 25; have dz := O5.out.1; clear ho hb hn1 hc1)
  obtain ⟨w6, hw6⟩ : ∃ x, x = w5.setCell ⟨w.heap.size, 25, none⟩ (.slice K1 C.k.length ck1) := ⟨_, rfl⟩
  rw [← hw6]
  have Ow6 : Hid (Own w6 w.heap.size [.slice A1 way.length c1, .int .i64 head, .int .i64 len, .int .i64 speed, .int .i64 x, .int .i64 br, .int .i64 C.T.id, .string C.T.name, .int .i64 C.T.len, .int .i64 C.T.speed, .int .i64 C.T.accel, .int .i64 C.T.service, .int .i64 C.T.emergency, .int .i64 C.T.delay, .int .i64 C.T.cons, .int .i64 C.T.rate, .int .i64 C.mode, .int .i64 C.brake, .int .i64 C.next, .int .i64 C.emin, .int .i64 C.emax, .int .i64 C.espeed, .int .i64 C.seq, .int .i64 C.en, .slice B1 C.p.length cb1, .slice K1 C.k.length ck1, .int .i64 C.peer, .int .i64 C.out, .int .i64 C.inn, .int .i64 C.heard, .bool C.known, .int .i64 C.since]) := hw6 ▸ O5.out.set 25 (by simp) (.slice K1 C.k.length ck1)
  have Pw6 : Hid (Own w6 (w.heap.size + 1) [.slice none 0 0, .int .i64 0, .int .i64 0, .int .i64 0, .int .i64 0, .int .i64 0, .int .i64 0, .string ⟨#[]⟩, .int .i64 0, .int .i64 0, .int .i64 0, .int .i64 0, .int .i64 0, .int .i64 0, .int .i64 0, .int .i64 0, .int .i64 0, .int .i64 0, .int .i64 0, .int .i64 0, .int .i64 0, .int .i64 0, .int .i64 0, .int .i64 0, .slice none 0 0, .slice none 0 0, .int .i64 0, .int .i64 0, .int .i64 0, .int .i64 0, .bool false, .int .i64 0]) := hw6 ▸ P5.out.only (Only.set _ _ _ _) (by omega)
  have Xw6 : Hid (Ext w w6) := hw6 ▸ eset X5.out (Nat.le_refl _) _ _
  have Nw6 : Hid (RdN (w.heap.size + 2) w6 A1 3 Stc way) := hw6 ▸ N5.out.only (Only.set _ _ _ _) (by omega)
  have Mw6 : Hid (RdN (w.heap.size + 2) w6 B1 4 Sgc C.p) := hw6 ▸ M5.out.only (Only.set _ _ _ _) (by omega)
  have Qw6 : Hid (RdN (w.heap.size + 2) w6 K1 2 Lkc C.k) := hw6 ▸ Q5.out.only (Only.set _ _ _ _) (by omega)
  clear hw6 O5 P5 X5 N5 M5 Q5 b25 bf bz d25 df dz Ow4 Pw4 Xw4 Nw4 Mw4 w5 w4
  go_wp2_with (first | (refine wp_ldN 49 [.slice A1 way.length c1, .int .i64 head, .int .i64 len, .int .i64 speed, .int .i64 x, .int .i64 br, .int .i64 C.T.id, .string C.T.name, .int .i64 C.T.len, .int .i64 C.T.speed, .int .i64 C.T.accel, .int .i64 C.T.service, .int .i64 C.T.emergency, .int .i64 C.T.delay, .int .i64 C.T.cons, .int .i64 C.T.rate, .int .i64 C.mode, .int .i64 C.brake, .int .i64 C.next, .int .i64 C.emin, .int .i64 C.emax, .int .i64 C.espeed, .int .i64 C.seq, .int .i64 C.en, .slice B1 C.p.length cb1, .slice K1 C.k.length ck1, .int .i64 C.peer, .int .i64 C.out, .int .i64 C.inn, .int .i64 C.heard, .bool C.known, .int .i64 C.since] rfl rfl rfl Ow6.out.cells Tryd.underlying49 szUnt rfl ?_) | (refine wp_stN 49 [.slice A1 way.length c1, .int .i64 head, .int .i64 len, .int .i64 speed, .int .i64 x, .int .i64 br, .int .i64 C.T.id, .string C.T.name, .int .i64 C.T.len, .int .i64 C.T.speed, .int .i64 C.T.accel, .int .i64 C.T.service, .int .i64 C.T.emergency, .int .i64 C.T.delay, .int .i64 C.T.cons, .int .i64 C.T.rate, .int .i64 C.mode, .int .i64 C.brake, .int .i64 C.next, .int .i64 C.emin, .int .i64 C.emax, .int .i64 C.espeed, .int .i64 C.seq, .int .i64 C.en, .slice B1 C.p.length cb1, .slice K1 C.k.length ck1, .int .i64 C.peer, .int .i64 C.out, .int .i64 C.inn, .int .i64 C.heard, .bool C.known, .int .i64 C.since] [.slice A1 way.length c1, .int .i64 head, .int .i64 len, .int .i64 speed, .int .i64 x, .int .i64 br, .int .i64 C.T.id, .string C.T.name, .int .i64 C.T.len, .int .i64 C.T.speed, .int .i64 C.T.accel, .int .i64 C.T.service, .int .i64 C.T.emergency, .int .i64 C.T.delay, .int .i64 C.T.cons, .int .i64 C.T.rate, .int .i64 C.mode, .int .i64 C.brake, .int .i64 C.next, .int .i64 C.emin, .int .i64 C.emax, .int .i64 C.espeed, .int .i64 C.seq, .int .i64 C.en, .slice B1 C.p.length cb1, .slice K1 C.k.length ck1, .int .i64 C.peer, .int .i64 C.out, .int .i64 C.inn, .int .i64 C.heard, .bool C.known, .int .i64 C.since] rfl rfl rfl Pw6.out rfl szUnt rfl (by show (0 + 32 : Nat) ≤ 32; decide) rfl ?_; intro w7 H7))
  refine bodyPost_ret (res_c (by rfl) (by rfl) H7.out.1.cells Tryd.underlying49 szUnt) rfl ⟨A1, c1, B1, cb1, K1, ck1, rfl, ⟨(Nw6.out.only H7.out.2 (by omega)).mono (by omega), C1.out, (Mw6.out.only H7.out.2 (by omega)).mono (by omega), C2.out, (Qw6.out.only H7.out.2 (by omega)).mono (by omega), C3.out⟩, eonly Xw6.out H7.out.2 (by omega)⟩
/-! ### the speed of the next cycle -/
theorem changed_any (A : Option Addr) (way : List Stp) (c : Nat) (head len speed x br : Int) (C : Cu) (B : Option Addr) (cb : Nat) (K : Option Addr) (ck : Nat) (g want : Int) (w : World) (hT : Sg.TrOk C.T) (hv : 0 ≤ speed ∧ speed ≤ 10000) (hb : 0 ≤ br ∧ br ≤ 1073741824) (hw : 0 ≤ want) :
    Calls Tryd.prog 46 #[.agg #[.slice A way.length c, .int .i64 head, .int .i64 len, .int .i64 speed, .int .i64 x, .int .i64 br, .int .i64 C.T.id, .string C.T.name, .int .i64 C.T.len, .int .i64 C.T.speed, .int .i64 C.T.accel, .int .i64 C.T.service, .int .i64 C.T.emergency, .int .i64 C.T.delay, .int .i64 C.T.cons, .int .i64 C.T.rate, .int .i64 C.mode, .int .i64 C.brake, .int .i64 C.next, .int .i64 C.emin, .int .i64 C.emax, .int .i64 C.espeed, .int .i64 C.seq, .int .i64 C.en, .slice B C.p.length cb, .slice K C.k.length ck, .int .i64 C.peer, .int .i64 C.out, .int .i64 C.inn, .int .i64 C.heard, .bool C.known, .int .i64 C.since], .int .i64 g, .int .i64 want] w fun e w' => e = .returned (.agg #[.slice A way.length c, .int .i64 head, .int .i64 len, .int .i64 (newV C.T speed g C.brake br want), .int .i64 x, .int .i64 (newB C.brake br), .int .i64 C.T.id, .string C.T.name, .int .i64 C.T.len, .int .i64 C.T.speed, .int .i64 C.T.accel, .int .i64 C.T.service, .int .i64 C.T.emergency, .int .i64 C.T.delay, .int .i64 C.T.cons, .int .i64 C.T.rate, .int .i64 C.mode, .int .i64 C.brake, .int .i64 C.next, .int .i64 C.emin, .int .i64 C.emax, .int .i64 C.espeed, .int .i64 C.seq, .int .i64 C.en, .slice B C.p.length cb, .slice K C.k.length ck, .int .i64 C.peer, .int .i64 C.out, .int .i64 C.inn, .int .i64 C.heard, .bool C.known, .int .i64 C.since]) ∧ Below w.heap.size w w' := by
  have HT := Lib.hid hT
  obtain ⟨v', hv'⟩ : ∃ v', v' = newV C.T speed g C.brake br want := ⟨_, rfl⟩
  obtain ⟨b', hb'⟩ : ∃ b', b' = newB C.brake br := ⟨_, rfl⟩
  have HV := Lib.hid hv'
  have HB := Lib.hid hb'
  rw [← hv', ← hb']
  clear hv' hb' hT
  go_enter Tryd.func46, Tryd.ntmps46
  go_upto_region 1 with (fail)
  refine wp_scope_forward (l := 0) (by rfl) ?_
  go_upto_region 1 with (fail)
  obtain ⟨w1, hw1⟩ : ∃ q0, q0 = (w.alloc (.cells #[.slice A way.length c, .int .i64 head, .int .i64 len, .int .i64 speed, .int .i64 x, .int .i64 br, .int .i64 C.T.id, .string C.T.name, .int .i64 C.T.len, .int .i64 C.T.speed, .int .i64 C.T.accel, .int .i64 C.T.service, .int .i64 C.T.emergency, .int .i64 C.T.delay, .int .i64 C.T.cons, .int .i64 C.T.rate, .int .i64 C.mode, .int .i64 C.brake, .int .i64 C.next, .int .i64 C.emin, .int .i64 C.emax, .int .i64 C.espeed, .int .i64 C.seq, .int .i64 C.en, .slice B C.p.length cb, .slice K C.k.length ck, .int .i64 C.peer, .int .i64 C.out, .int .i64 C.inn, .int .i64 C.heard, .bool C.known, .int .i64 C.since] 49)).alloc (.cells #[.slice none 0 0, .int .i64 0, .int .i64 0, .int .i64 0, .int .i64 0, .int .i64 0, .int .i64 0, .string ⟨#[]⟩, .int .i64 0, .int .i64 0, .int .i64 0, .int .i64 0, .int .i64 0, .int .i64 0, .int .i64 0, .int .i64 0, .int .i64 0, .int .i64 0, .int .i64 0, .int .i64 0, .int .i64 0, .int .i64 0, .int .i64 0, .int .i64 0, .slice none 0 0, .slice none 0 0, .int .i64 0, .int .i64 0, .int .i64 0, .int .i64 0, .bool false, .int .i64 0] 49) := ⟨_, rfl⟩
  rw [← hw1]
  have O1 : Hid (Own w1 w.heap.size [.slice A way.length c, .int .i64 head, .int .i64 len, .int .i64 speed, .int .i64 x, .int .i64 br, .int .i64 C.T.id, .string C.T.name, .int .i64 C.T.len, .int .i64 C.T.speed, .int .i64 C.T.accel, .int .i64 C.T.service, .int .i64 C.T.emergency, .int .i64 C.T.delay, .int .i64 C.T.cons, .int .i64 C.T.rate, .int .i64 C.mode, .int .i64 C.brake, .int .i64 C.next, .int .i64 C.emin, .int .i64 C.emax, .int .i64 C.espeed, .int .i64 C.seq, .int .i64 C.en, .slice B C.p.length cb, .slice K C.k.length ck, .int .i64 C.peer, .int .i64 C.out, .int .i64 C.inn, .int .i64 C.heard, .bool C.known, .int .i64 C.since]) := hw1 ▸ (Own.new rfl).alloc _
  have P1 : Hid (Own w1 (w.heap.size + 1) [.slice none 0 0, .int .i64 0, .int .i64 0, .int .i64 0, .int .i64 0, .int .i64 0, .int .i64 0, .string ⟨#[]⟩, .int .i64 0, .int .i64 0, .int .i64 0, .int .i64 0, .int .i64 0, .int .i64 0, .int .i64 0, .int .i64 0, .int .i64 0, .int .i64 0, .int .i64 0, .int .i64 0, .int .i64 0, .int .i64 0, .int .i64 0, .int .i64 0, .slice none 0 0, .slice none 0 0, .int .i64 0, .int .i64 0, .int .i64 0, .int .i64 0, .bool false, .int .i64 0]) := hw1 ▸ Own.new (by simp)
  have X1 : Hid (Ext w w1) := hw1 ▸ eal (eal (Ext.refl _) _) _
  clear hw1
  have b3 := O1.out.2.1 3 _ rfl
  have bz := O1.out.1
  refine wp_region_monoB [0, 1, 2, 3, 4] 3 (by kernel_rfl) (by kernel_rfl) (fun _ _ d _ _ h => by cases d <;> exact h) (by kernel_rfl) (by kernel_rfl) ?_
  iterate 2 (refine wpE_step rfl (fun K hK => ?_); go_simp; (refine hK _ ?_; clear hK K))
  refine wE_ldN 35 [.int .i64 C.T.id, .string C.T.name, .int .i64 C.T.len, .int .i64 C.T.speed, .int .i64 C.T.accel, .int .i64 C.T.service, .int .i64 C.T.emergency, .int .i64 C.T.delay, .int .i64 C.T.cons, .int .i64 C.T.rate] rfl rfl (by rfl) rfl O1.out.cells Tryd.underlying35 szTr rfl ?_
  iterate 2 (refine wpE_step rfl (fun K hK => ?_); go_simp; (refine hK _ ?_; clear hK K))
  refine wpE_nil ?_
  intro x0
  refine wpAnyB_ready (rs := [5]) (by kernel_rfl) (by simp) (AllB.cons rfl (fun K hK => ?_) AllB.nil)
  go_simp
  refine hK _ _ (ext_below (eal (Ext.refl _) _) (esz x0.is)) (fun z => ?_)
  clear hK K
  have Oz := Lib.hid ((Own.new (w := x0.val) (cs := #[.int .i64 0, .string ⟨#[]⟩, .int .i64 0, .int .i64 0, .int .i64 0, .int .i64 0, .int .i64 0, .int .i64 0, .int .i64 0, .int .i64 0]) (t := 35) rfl).keep z.is)
  have sx := x0.is.size
  refine wpAnyB_ready (rs := [6]) (by kernel_rfl) (by simp) (AllB.cons rfl (fun K hK => ?_) AllB.nil)
  rw [if_pos (by rfl)]
  refine wpo_stN 35 [.int .i64 C.T.id, .string C.T.name, .int .i64 C.T.len, .int .i64 C.T.speed, .int .i64 C.T.accel, .int .i64 C.T.service, .int .i64 C.T.emergency, .int .i64 C.T.delay, .int .i64 C.T.cons, .int .i64 C.T.rate] [.int .i64 C.T.id, .string C.T.name, .int .i64 C.T.len, .int .i64 C.T.speed, .int .i64 C.T.accel, .int .i64 C.T.service, .int .i64 C.T.emergency, .int .i64 C.T.delay, .int .i64 C.T.cons, .int .i64 C.T.rate] rfl rfl Oz.out rfl szTr rfl (by show (0 + 10 : Nat) ≤ 10; decide) rfl ?_; intro w4 H4
  refine hK _ _ (Below.only (Below.refl _ _) H4.out.2 sx) (fun z4 => ?_)
  clear hK K
  refine wpAnyB_ready (rs := [7]) (by kernel_rfl) (by simp) (AllB.cons rfl (fun K hK => ?_) AllB.nil)
  go_simp
  refine hK _ _ (Below.refl _ _) (fun z5 => ?_)
  clear hK K
  refine wpAnyB_done (by kernel_rfl) ?_ _
  obtain ⟨b7, hb7⟩ : ∃ b7, b7 = x0.val.heap.size := ⟨_, rfl⟩
  have hb71 : w.heap.size + 1 < b7 := by have := P1.out.1; omega
  rw [← hb7] at H4 ⊢
  obtain ⟨w5, hw5⟩ : ∃ x, x = z5.val := ⟨_, rfl⟩
  have E5 : Hid (Ext w1 w5) := hw5 ▸ etr (etr (eonly (etr (eal x0.is _) z.is) H4.out.2 (by have := x0.is.size; omega)) z4.is) z5.is
  have R5 : Hid (Own w5 b7 [.int .i64 C.T.id, .string C.T.name, .int .i64 C.T.len, .int .i64 C.T.speed, .int .i64 C.T.accel, .int .i64 C.T.service, .int .i64 C.T.emergency, .int .i64 C.T.delay, .int .i64 C.T.cons, .int .i64 C.T.rate]) := hw5 ▸ (H4.out.1.keep z4.is).keep z5.is
  have O5 := Lib.hid (O1.out.keep E5.out)
  have P5 := Lib.hid (P1.out.keep E5.out)
  have X5 := Lib.hid (etr X1.out E5.out)
  rw [← hw5]
  clear hw5 z z4 z5 Oz H4 sx hb7 w4 x0 b3 bz O1 P1 X1 E5 w1
  have u3 := O5.out.2.1 3 _ rfl
  have u5 := O5.out.2.1 5 _ rfl
  have u17 := O5.out.2.1 17 _ rfl
  have uf3 := O5.out.2.2 3
  have uf5 := O5.out.2.2 5
  have uz := O5.out.1
  have r3 := R5.out.2.1 3 _ rfl
  have r4 := R5.out.2.1 4 _ rfl
  have r5 := R5.out.2.1 5 _ rfl
  have r6 := R5.out.2.1 6 _ rfl
  have r7 := R5.out.2.1 7 _ rfl
  have rz := R5.out.1
  have t1 := HT.out.accel
  have t2 := HT.out.service
  have t3 := HT.out.speed
  have e1 := effV_bd C.T.service g
  have e2 := effV_bd C.T.emergency g
  have hne : ¬ b7 = w.heap.size := by omega
  have hne2 : ¬ w.heap.size = b7 := by omega
  by_cases k0 : C.brake = 0
  · have q0 : (C.brake == 0) = true := by simpa using k0
    obtain rfl : b' = 0 := by rw [HB.out]; unfold newB; rw [if_pos (.inl k0)]
    by_cases k1 : speed < want
    · have q1 : decide (speed < want) = true := decide_eq_true k1
      have n1 : IntKind.i64.wrap (speed + C.T.accel) = speed + C.T.accel := IntWalk.i64_in _ (by omega)
      have m1 : min (min (speed + C.T.accel) want) C.T.speed = v' := by rw [HV.out]; unfold newV; rw [if_pos k0]; unfold freeV; rw [if_pos k1]
      go_wp2_with fail
      go_step3
      refine ⟨rfl, ?_⟩
      obtain ⟨w6, hw6⟩ : ∃ q0, q0 = (w5.setCell ⟨w.heap.size, 5, none⟩ (.int .i64 0)).setCell ⟨w.heap.size, 3, none⟩ (.int .i64 v') := ⟨_, rfl⟩
      rw [← hw6]
      have O6 : Hid (Own w6 w.heap.size [.slice A way.length c, .int .i64 head, .int .i64 len, .int .i64 v', .int .i64 x, .int .i64 0, .int .i64 C.T.id, .string C.T.name, .int .i64 C.T.len, .int .i64 C.T.speed, .int .i64 C.T.accel, .int .i64 C.T.service, .int .i64 C.T.emergency, .int .i64 C.T.delay, .int .i64 C.T.cons, .int .i64 C.T.rate, .int .i64 C.mode, .int .i64 C.brake, .int .i64 C.next, .int .i64 C.emin, .int .i64 C.emax, .int .i64 C.espeed, .int .i64 C.seq, .int .i64 C.en, .slice B C.p.length cb, .slice K C.k.length ck, .int .i64 C.peer, .int .i64 C.out, .int .i64 C.inn, .int .i64 C.heard, .bool C.known, .int .i64 C.since]) := hw6 ▸ ((O5.out.set 5 (by simp) (.int .i64 0)).set 3 (by simp) (.int .i64 v'))
      have P6 : Hid (Own w6 (w.heap.size + 1) [.slice none 0 0, .int .i64 0, .int .i64 0, .int .i64 0, .int .i64 0, .int .i64 0, .int .i64 0, .string ⟨#[]⟩, .int .i64 0, .int .i64 0, .int .i64 0, .int .i64 0, .int .i64 0, .int .i64 0, .int .i64 0, .int .i64 0, .int .i64 0, .int .i64 0, .int .i64 0, .int .i64 0, .int .i64 0, .int .i64 0, .int .i64 0, .int .i64 0, .slice none 0 0, .slice none 0 0, .int .i64 0, .int .i64 0, .int .i64 0, .int .i64 0, .bool false, .int .i64 0]) := hw6 ▸ ((P5.out.only (Only.set _ _ _ _) (by omega)).only (Only.set _ _ _ _) (by omega))
      have X6 : Hid (Ext w w6) := hw6 ▸ eset (eset X5.out (Nat.le_refl _) _ _) (Nat.le_refl _) _ _
      go_wp2_with (first | (refine wp_ldN 49 [.slice A way.length c, .int .i64 head, .int .i64 len, .int .i64 v', .int .i64 x, .int .i64 0, .int .i64 C.T.id, .string C.T.name, .int .i64 C.T.len, .int .i64 C.T.speed, .int .i64 C.T.accel, .int .i64 C.T.service, .int .i64 C.T.emergency, .int .i64 C.T.delay, .int .i64 C.T.cons, .int .i64 C.T.rate, .int .i64 C.mode, .int .i64 C.brake, .int .i64 C.next, .int .i64 C.emin, .int .i64 C.emax, .int .i64 C.espeed, .int .i64 C.seq, .int .i64 C.en, .slice B C.p.length cb, .slice K C.k.length ck, .int .i64 C.peer, .int .i64 C.out, .int .i64 C.inn, .int .i64 C.heard, .bool C.known, .int .i64 C.since] rfl rfl rfl O6.out.cells Tryd.underlying49 szUnt rfl ?_) | (refine wp_stN 49 [.slice A way.length c, .int .i64 head, .int .i64 len, .int .i64 v', .int .i64 x, .int .i64 0, .int .i64 C.T.id, .string C.T.name, .int .i64 C.T.len, .int .i64 C.T.speed, .int .i64 C.T.accel, .int .i64 C.T.service, .int .i64 C.T.emergency, .int .i64 C.T.delay, .int .i64 C.T.cons, .int .i64 C.T.rate, .int .i64 C.mode, .int .i64 C.brake, .int .i64 C.next, .int .i64 C.emin, .int .i64 C.emax, .int .i64 C.espeed, .int .i64 C.seq, .int .i64 C.en, .slice B C.p.length cb, .slice K C.k.length ck, .int .i64 C.peer, .int .i64 C.out, .int .i64 C.inn, .int .i64 C.heard, .bool C.known, .int .i64 C.since] [.slice A way.length c, .int .i64 head, .int .i64 len, .int .i64 v', .int .i64 x, .int .i64 0, .int .i64 C.T.id, .string C.T.name, .int .i64 C.T.len, .int .i64 C.T.speed, .int .i64 C.T.accel, .int .i64 C.T.service, .int .i64 C.T.emergency, .int .i64 C.T.delay, .int .i64 C.T.cons, .int .i64 C.T.rate, .int .i64 C.mode, .int .i64 C.brake, .int .i64 C.next, .int .i64 C.emin, .int .i64 C.emax, .int .i64 C.espeed, .int .i64 C.seq, .int .i64 C.en, .slice B C.p.length cb, .slice K C.k.length ck, .int .i64 C.peer, .int .i64 C.out, .int .i64 C.inn, .int .i64 C.heard, .bool C.known, .int .i64 C.since] rfl rfl rfl P6.out rfl szUnt rfl (by show (0 + 32 : Nat) ≤ 32; decide) rfl ?_; intro w7 H7))
      (try simp only [Exit.noGoto, Exit.jump])
      exact bodyPost_ret (res_c (by rfl) (by rfl) H7.out.1.cells Tryd.underlying49 szUnt) rfl ⟨rfl, eonly X6.out H7.out.2 (by omega)⟩
    · have q1 : decide (speed < want) = false := decide_eq_false k1
      have n1 : IntKind.i64.wrap (speed - C.T.service) = speed - C.T.service := IntWalk.i64_in _ (by omega)
      have m1 : max want (speed - C.T.service) = v' := by rw [HV.out]; unfold newV; rw [if_pos k0]; unfold freeV; rw [if_neg k1]; omega
      go_wp2_with fail
      go_step3
      refine ⟨rfl, ?_⟩
      obtain ⟨w6, hw6⟩ : ∃ q0, q0 = (w5.setCell ⟨w.heap.size, 5, none⟩ (.int .i64 0)).setCell ⟨w.heap.size, 3, none⟩ (.int .i64 v') := ⟨_, rfl⟩
      rw [← hw6]
      have O6 : Hid (Own w6 w.heap.size [.slice A way.length c, .int .i64 head, .int .i64 len, .int .i64 v', .int .i64 x, .int .i64 0, .int .i64 C.T.id, .string C.T.name, .int .i64 C.T.len, .int .i64 C.T.speed, .int .i64 C.T.accel, .int .i64 C.T.service, .int .i64 C.T.emergency, .int .i64 C.T.delay, .int .i64 C.T.cons, .int .i64 C.T.rate, .int .i64 C.mode, .int .i64 C.brake, .int .i64 C.next, .int .i64 C.emin, .int .i64 C.emax, .int .i64 C.espeed, .int .i64 C.seq, .int .i64 C.en, .slice B C.p.length cb, .slice K C.k.length ck, .int .i64 C.peer, .int .i64 C.out, .int .i64 C.inn, .int .i64 C.heard, .bool C.known, .int .i64 C.since]) := hw6 ▸ ((O5.out.set 5 (by simp) (.int .i64 0)).set 3 (by simp) (.int .i64 v'))
      have P6 : Hid (Own w6 (w.heap.size + 1) [.slice none 0 0, .int .i64 0, .int .i64 0, .int .i64 0, .int .i64 0, .int .i64 0, .int .i64 0, .string ⟨#[]⟩, .int .i64 0, .int .i64 0, .int .i64 0, .int .i64 0, .int .i64 0, .int .i64 0, .int .i64 0, .int .i64 0, .int .i64 0, .int .i64 0, .int .i64 0, .int .i64 0, .int .i64 0, .int .i64 0, .int .i64 0, .int .i64 0, .slice none 0 0, .slice none 0 0, .int .i64 0, .int .i64 0, .int .i64 0, .int .i64 0, .bool false, .int .i64 0]) := hw6 ▸ ((P5.out.only (Only.set _ _ _ _) (by omega)).only (Only.set _ _ _ _) (by omega))
      have X6 : Hid (Ext w w6) := hw6 ▸ eset (eset X5.out (Nat.le_refl _) _ _) (Nat.le_refl _) _ _
      go_wp2_with (first | (refine wp_ldN 49 [.slice A way.length c, .int .i64 head, .int .i64 len, .int .i64 v', .int .i64 x, .int .i64 0, .int .i64 C.T.id, .string C.T.name, .int .i64 C.T.len, .int .i64 C.T.speed, .int .i64 C.T.accel, .int .i64 C.T.service, .int .i64 C.T.emergency, .int .i64 C.T.delay, .int .i64 C.T.cons, .int .i64 C.T.rate, .int .i64 C.mode, .int .i64 C.brake, .int .i64 C.next, .int .i64 C.emin, .int .i64 C.emax, .int .i64 C.espeed, .int .i64 C.seq, .int .i64 C.en, .slice B C.p.length cb, .slice K C.k.length ck, .int .i64 C.peer, .int .i64 C.out, .int .i64 C.inn, .int .i64 C.heard, .bool C.known, .int .i64 C.since] rfl rfl rfl O6.out.cells Tryd.underlying49 szUnt rfl ?_) | (refine wp_stN 49 [.slice A way.length c, .int .i64 head, .int .i64 len, .int .i64 v', .int .i64 x, .int .i64 0, .int .i64 C.T.id, .string C.T.name, .int .i64 C.T.len, .int .i64 C.T.speed, .int .i64 C.T.accel, .int .i64 C.T.service, .int .i64 C.T.emergency, .int .i64 C.T.delay, .int .i64 C.T.cons, .int .i64 C.T.rate, .int .i64 C.mode, .int .i64 C.brake, .int .i64 C.next, .int .i64 C.emin, .int .i64 C.emax, .int .i64 C.espeed, .int .i64 C.seq, .int .i64 C.en, .slice B C.p.length cb, .slice K C.k.length ck, .int .i64 C.peer, .int .i64 C.out, .int .i64 C.inn, .int .i64 C.heard, .bool C.known, .int .i64 C.since] [.slice A way.length c, .int .i64 head, .int .i64 len, .int .i64 v', .int .i64 x, .int .i64 0, .int .i64 C.T.id, .string C.T.name, .int .i64 C.T.len, .int .i64 C.T.speed, .int .i64 C.T.accel, .int .i64 C.T.service, .int .i64 C.T.emergency, .int .i64 C.T.delay, .int .i64 C.T.cons, .int .i64 C.T.rate, .int .i64 C.mode, .int .i64 C.brake, .int .i64 C.next, .int .i64 C.emin, .int .i64 C.emax, .int .i64 C.espeed, .int .i64 C.seq, .int .i64 C.en, .slice B C.p.length cb, .slice K C.k.length ck, .int .i64 C.peer, .int .i64 C.out, .int .i64 C.inn, .int .i64 C.heard, .bool C.known, .int .i64 C.since] rfl rfl rfl P6.out rfl szUnt rfl (by show (0 + 32 : Nat) ≤ 32; decide) rfl ?_; intro w7 H7))
      (try simp only [Exit.noGoto, Exit.jump])
      exact bodyPost_ret (res_c (by rfl) (by rfl) H7.out.1.cells Tryd.underlying49 szUnt) rfl ⟨rfl, eonly X6.out H7.out.2 (by omega)⟩
  have q0 : (C.brake == 0) = false := by simpa using k0
  by_cases k1 : C.brake = 1
  · have q1 : (C.brake == 1) = true := by simpa using k1
    obtain rfl : b' = 0 := by rw [HB.out]; unfold newB; rw [if_pos (.inr k1)]
    obtain ⟨ev, hev⟩ : ∃ ev, ev = effV C.T.service g := ⟨_, rfl⟩
    rw [← hev] at e1
    have n1 : IntKind.i64.wrap (speed - ev) = speed - ev := IntWalk.i64_in _ (by omega)
    have m1 : max 0 (speed - ev) = v' := by rw [HV.out, hev]; unfold newV; rw [if_neg k0, if_pos k1]
    have HE : Hid (∀ w' : World, Calls Tryd.prog 13 #[.int .i64 C.T.service, .int .i64 g] w' fun e w2 => e = .returned (.int .i64 ev) ∧ w' = w2) := fun w' => by have := eff_any C.T.service g w'; rw [← hev] at this; exact this
    clear hev
    go_wp2_with (go_at_call 13; refine (HE.out _).mono ?_; rintro e w' ⟨rfl, rfl⟩)
    go_step3
    refine ⟨rfl, ?_⟩
    obtain ⟨w6, hw6⟩ : ∃ q0, q0 = (w5.setCell ⟨w.heap.size, 5, none⟩ (.int .i64 0)).setCell ⟨w.heap.size, 3, none⟩ (.int .i64 v') := ⟨_, rfl⟩
    rw [← hw6]
    have O6 : Hid (Own w6 w.heap.size [.slice A way.length c, .int .i64 head, .int .i64 len, .int .i64 v', .int .i64 x, .int .i64 0, .int .i64 C.T.id, .string C.T.name, .int .i64 C.T.len, .int .i64 C.T.speed, .int .i64 C.T.accel, .int .i64 C.T.service, .int .i64 C.T.emergency, .int .i64 C.T.delay, .int .i64 C.T.cons, .int .i64 C.T.rate, .int .i64 C.mode, .int .i64 C.brake, .int .i64 C.next, .int .i64 C.emin, .int .i64 C.emax, .int .i64 C.espeed, .int .i64 C.seq, .int .i64 C.en, .slice B C.p.length cb, .slice K C.k.length ck, .int .i64 C.peer, .int .i64 C.out, .int .i64 C.inn, .int .i64 C.heard, .bool C.known, .int .i64 C.since]) := hw6 ▸ ((O5.out.set 5 (by simp) (.int .i64 0)).set 3 (by simp) (.int .i64 v'))
    have P6 : Hid (Own w6 (w.heap.size + 1) [.slice none 0 0, .int .i64 0, .int .i64 0, .int .i64 0, .int .i64 0, .int .i64 0, .int .i64 0, .string ⟨#[]⟩, .int .i64 0, .int .i64 0, .int .i64 0, .int .i64 0, .int .i64 0, .int .i64 0, .int .i64 0, .int .i64 0, .int .i64 0, .int .i64 0, .int .i64 0, .int .i64 0, .int .i64 0, .int .i64 0, .int .i64 0, .int .i64 0, .slice none 0 0, .slice none 0 0, .int .i64 0, .int .i64 0, .int .i64 0, .int .i64 0, .bool false, .int .i64 0]) := hw6 ▸ ((P5.out.only (Only.set _ _ _ _) (by omega)).only (Only.set _ _ _ _) (by omega))
    have X6 : Hid (Ext w w6) := hw6 ▸ eset (eset X5.out (Nat.le_refl _) _ _) (Nat.le_refl _) _ _
    go_wp2_with (first | (refine wp_ldN 49 [.slice A way.length c, .int .i64 head, .int .i64 len, .int .i64 v', .int .i64 x, .int .i64 0, .int .i64 C.T.id, .string C.T.name, .int .i64 C.T.len, .int .i64 C.T.speed, .int .i64 C.T.accel, .int .i64 C.T.service, .int .i64 C.T.emergency, .int .i64 C.T.delay, .int .i64 C.T.cons, .int .i64 C.T.rate, .int .i64 C.mode, .int .i64 C.brake, .int .i64 C.next, .int .i64 C.emin, .int .i64 C.emax, .int .i64 C.espeed, .int .i64 C.seq, .int .i64 C.en, .slice B C.p.length cb, .slice K C.k.length ck, .int .i64 C.peer, .int .i64 C.out, .int .i64 C.inn, .int .i64 C.heard, .bool C.known, .int .i64 C.since] rfl rfl rfl O6.out.cells Tryd.underlying49 szUnt rfl ?_) | (refine wp_stN 49 [.slice A way.length c, .int .i64 head, .int .i64 len, .int .i64 v', .int .i64 x, .int .i64 0, .int .i64 C.T.id, .string C.T.name, .int .i64 C.T.len, .int .i64 C.T.speed, .int .i64 C.T.accel, .int .i64 C.T.service, .int .i64 C.T.emergency, .int .i64 C.T.delay, .int .i64 C.T.cons, .int .i64 C.T.rate, .int .i64 C.mode, .int .i64 C.brake, .int .i64 C.next, .int .i64 C.emin, .int .i64 C.emax, .int .i64 C.espeed, .int .i64 C.seq, .int .i64 C.en, .slice B C.p.length cb, .slice K C.k.length ck, .int .i64 C.peer, .int .i64 C.out, .int .i64 C.inn, .int .i64 C.heard, .bool C.known, .int .i64 C.since] [.slice A way.length c, .int .i64 head, .int .i64 len, .int .i64 v', .int .i64 x, .int .i64 0, .int .i64 C.T.id, .string C.T.name, .int .i64 C.T.len, .int .i64 C.T.speed, .int .i64 C.T.accel, .int .i64 C.T.service, .int .i64 C.T.emergency, .int .i64 C.T.delay, .int .i64 C.T.cons, .int .i64 C.T.rate, .int .i64 C.mode, .int .i64 C.brake, .int .i64 C.next, .int .i64 C.emin, .int .i64 C.emax, .int .i64 C.espeed, .int .i64 C.seq, .int .i64 C.en, .slice B C.p.length cb, .slice K C.k.length ck, .int .i64 C.peer, .int .i64 C.out, .int .i64 C.inn, .int .i64 C.heard, .bool C.known, .int .i64 C.since] rfl rfl rfl P6.out rfl szUnt rfl (by show (0 + 32 : Nat) ≤ 32; decide) rfl ?_; intro w7 H7))
    (try simp only [Exit.noGoto, Exit.jump])
    exact bodyPost_ret (res_c (by rfl) (by rfl) H7.out.1.cells Tryd.underlying49 szUnt) rfl ⟨rfl, eonly X6.out H7.out.2 (by omega)⟩
  have q1 : (C.brake == 1) = false := by simpa using k1
  have n2 : IntKind.i64.wrap (br + 1) = br + 1 := IntWalk.i64_in _ (by omega)
  have m2 : min (br + 1) 1073741824 = b' := by rw [HB.out]; unfold newB; rw [if_neg (by omega)]
  have hb' : newB C.brake br = b' := HB.out.symm
  by_cases k2 : C.T.delay < b'
  · have q2 : decide (C.T.delay < b') = true := decide_eq_true k2
    obtain ⟨ev, hev⟩ : ∃ ev, ev = effV C.T.emergency g := ⟨_, rfl⟩
    rw [← hev] at e2
    have n1 : IntKind.i64.wrap (speed - ev) = speed - ev := IntWalk.i64_in _ (by omega)
    have m1 : max 0 (speed - ev) = v' := by rw [HV.out, hev]; unfold newV; rw [if_neg k0, if_neg k1, if_pos (by rw [hb']; exact k2)]
    have HE : Hid (∀ w' : World, Calls Tryd.prog 13 #[.int .i64 C.T.emergency, .int .i64 g] w' fun e w2 => e = .returned (.int .i64 ev) ∧ w' = w2) := fun w' => by have := eff_any C.T.emergency g w'; rw [← hev] at this; exact this
    clear hev hb'
    go_wp2_with (go_at_call 13; refine (HE.out _).mono ?_; rintro e w' ⟨rfl, rfl⟩)
    go_step3
    obtain ⟨w6, hw6⟩ : ∃ q0, q0 = (w5.setCell ⟨w.heap.size, 5, none⟩ (.int .i64 b')).setCell ⟨w.heap.size, 3, none⟩ (.int .i64 v') := ⟨_, rfl⟩
    rw [← hw6]
    have O6 : Hid (Own w6 w.heap.size [.slice A way.length c, .int .i64 head, .int .i64 len, .int .i64 v', .int .i64 x, .int .i64 b', .int .i64 C.T.id, .string C.T.name, .int .i64 C.T.len, .int .i64 C.T.speed, .int .i64 C.T.accel, .int .i64 C.T.service, .int .i64 C.T.emergency, .int .i64 C.T.delay, .int .i64 C.T.cons, .int .i64 C.T.rate, .int .i64 C.mode, .int .i64 C.brake, .int .i64 C.next, .int .i64 C.emin, .int .i64 C.emax, .int .i64 C.espeed, .int .i64 C.seq, .int .i64 C.en, .slice B C.p.length cb, .slice K C.k.length ck, .int .i64 C.peer, .int .i64 C.out, .int .i64 C.inn, .int .i64 C.heard, .bool C.known, .int .i64 C.since]) := hw6 ▸ ((O5.out.set 5 (by simp) (.int .i64 b')).set 3 (by simp) (.int .i64 v'))
    have P6 : Hid (Own w6 (w.heap.size + 1) [.slice none 0 0, .int .i64 0, .int .i64 0, .int .i64 0, .int .i64 0, .int .i64 0, .int .i64 0, .string ⟨#[]⟩, .int .i64 0, .int .i64 0, .int .i64 0, .int .i64 0, .int .i64 0, .int .i64 0, .int .i64 0, .int .i64 0, .int .i64 0, .int .i64 0, .int .i64 0, .int .i64 0, .int .i64 0, .int .i64 0, .int .i64 0, .int .i64 0, .slice none 0 0, .slice none 0 0, .int .i64 0, .int .i64 0, .int .i64 0, .int .i64 0, .bool false, .int .i64 0]) := hw6 ▸ ((P5.out.only (Only.set _ _ _ _) (by omega)).only (Only.set _ _ _ _) (by omega))
    have X6 : Hid (Ext w w6) := hw6 ▸ eset (eset X5.out (Nat.le_refl _) _ _) (Nat.le_refl _) _ _
    go_wp2_with (first | (refine wp_ldN 49 [.slice A way.length c, .int .i64 head, .int .i64 len, .int .i64 v', .int .i64 x, .int .i64 b', .int .i64 C.T.id, .string C.T.name, .int .i64 C.T.len, .int .i64 C.T.speed, .int .i64 C.T.accel, .int .i64 C.T.service, .int .i64 C.T.emergency, .int .i64 C.T.delay, .int .i64 C.T.cons, .int .i64 C.T.rate, .int .i64 C.mode, .int .i64 C.brake, .int .i64 C.next, .int .i64 C.emin, .int .i64 C.emax, .int .i64 C.espeed, .int .i64 C.seq, .int .i64 C.en, .slice B C.p.length cb, .slice K C.k.length ck, .int .i64 C.peer, .int .i64 C.out, .int .i64 C.inn, .int .i64 C.heard, .bool C.known, .int .i64 C.since] rfl rfl rfl O6.out.cells Tryd.underlying49 szUnt rfl ?_) | (refine wp_stN 49 [.slice A way.length c, .int .i64 head, .int .i64 len, .int .i64 v', .int .i64 x, .int .i64 b', .int .i64 C.T.id, .string C.T.name, .int .i64 C.T.len, .int .i64 C.T.speed, .int .i64 C.T.accel, .int .i64 C.T.service, .int .i64 C.T.emergency, .int .i64 C.T.delay, .int .i64 C.T.cons, .int .i64 C.T.rate, .int .i64 C.mode, .int .i64 C.brake, .int .i64 C.next, .int .i64 C.emin, .int .i64 C.emax, .int .i64 C.espeed, .int .i64 C.seq, .int .i64 C.en, .slice B C.p.length cb, .slice K C.k.length ck, .int .i64 C.peer, .int .i64 C.out, .int .i64 C.inn, .int .i64 C.heard, .bool C.known, .int .i64 C.since] [.slice A way.length c, .int .i64 head, .int .i64 len, .int .i64 v', .int .i64 x, .int .i64 b', .int .i64 C.T.id, .string C.T.name, .int .i64 C.T.len, .int .i64 C.T.speed, .int .i64 C.T.accel, .int .i64 C.T.service, .int .i64 C.T.emergency, .int .i64 C.T.delay, .int .i64 C.T.cons, .int .i64 C.T.rate, .int .i64 C.mode, .int .i64 C.brake, .int .i64 C.next, .int .i64 C.emin, .int .i64 C.emax, .int .i64 C.espeed, .int .i64 C.seq, .int .i64 C.en, .slice B C.p.length cb, .slice K C.k.length ck, .int .i64 C.peer, .int .i64 C.out, .int .i64 C.inn, .int .i64 C.heard, .bool C.known, .int .i64 C.since] rfl rfl rfl P6.out rfl szUnt rfl (by show (0 + 32 : Nat) ≤ 32; decide) rfl ?_; intro w7 H7))
    (try simp only [Exit.noGoto, Exit.jump])
    exact bodyPost_ret (res_c (by rfl) (by rfl) H7.out.1.cells Tryd.underlying49 szUnt) rfl ⟨rfl, eonly X6.out H7.out.2 (by omega)⟩
  · have q2 : decide (C.T.delay < b') = false := decide_eq_false k2
    obtain rfl : v' = speed := by rw [HV.out]; unfold newV; rw [if_neg k0, if_neg k1, if_neg (by rw [hb']; exact k2)]
    clear hb'
    go_wp2_with fail
    go_step3
    obtain ⟨w6, hw6⟩ : ∃ q0, q0 = w5.setCell ⟨w.heap.size, 5, none⟩ (.int .i64 b') := ⟨_, rfl⟩
    rw [← hw6]
    have O6 : Hid (Own w6 w.heap.size [.slice A way.length c, .int .i64 head, .int .i64 len, .int .i64 v', .int .i64 x, .int .i64 b', .int .i64 C.T.id, .string C.T.name, .int .i64 C.T.len, .int .i64 C.T.speed, .int .i64 C.T.accel, .int .i64 C.T.service, .int .i64 C.T.emergency, .int .i64 C.T.delay, .int .i64 C.T.cons, .int .i64 C.T.rate, .int .i64 C.mode, .int .i64 C.brake, .int .i64 C.next, .int .i64 C.emin, .int .i64 C.emax, .int .i64 C.espeed, .int .i64 C.seq, .int .i64 C.en, .slice B C.p.length cb, .slice K C.k.length ck, .int .i64 C.peer, .int .i64 C.out, .int .i64 C.inn, .int .i64 C.heard, .bool C.known, .int .i64 C.since]) := hw6 ▸ (O5.out.set 5 (by simp) (.int .i64 b'))
    have P6 : Hid (Own w6 (w.heap.size + 1) [.slice none 0 0, .int .i64 0, .int .i64 0, .int .i64 0, .int .i64 0, .int .i64 0, .int .i64 0, .string ⟨#[]⟩, .int .i64 0, .int .i64 0, .int .i64 0, .int .i64 0, .int .i64 0, .int .i64 0, .int .i64 0, .int .i64 0, .int .i64 0, .int .i64 0, .int .i64 0, .int .i64 0, .int .i64 0, .int .i64 0, .int .i64 0, .int .i64 0, .slice none 0 0, .slice none 0 0, .int .i64 0, .int .i64 0, .int .i64 0, .int .i64 0, .bool false, .int .i64 0]) := hw6 ▸ (P5.out.only (Only.set _ _ _ _) (by omega))
    have X6 : Hid (Ext w w6) := hw6 ▸ eset X5.out (Nat.le_refl _) _ _
    go_wp2_with (first | (refine wp_ldN 49 [.slice A way.length c, .int .i64 head, .int .i64 len, .int .i64 v', .int .i64 x, .int .i64 b', .int .i64 C.T.id, .string C.T.name, .int .i64 C.T.len, .int .i64 C.T.speed, .int .i64 C.T.accel, .int .i64 C.T.service, .int .i64 C.T.emergency, .int .i64 C.T.delay, .int .i64 C.T.cons, .int .i64 C.T.rate, .int .i64 C.mode, .int .i64 C.brake, .int .i64 C.next, .int .i64 C.emin, .int .i64 C.emax, .int .i64 C.espeed, .int .i64 C.seq, .int .i64 C.en, .slice B C.p.length cb, .slice K C.k.length ck, .int .i64 C.peer, .int .i64 C.out, .int .i64 C.inn, .int .i64 C.heard, .bool C.known, .int .i64 C.since] rfl rfl rfl O6.out.cells Tryd.underlying49 szUnt rfl ?_) | (refine wp_stN 49 [.slice A way.length c, .int .i64 head, .int .i64 len, .int .i64 v', .int .i64 x, .int .i64 b', .int .i64 C.T.id, .string C.T.name, .int .i64 C.T.len, .int .i64 C.T.speed, .int .i64 C.T.accel, .int .i64 C.T.service, .int .i64 C.T.emergency, .int .i64 C.T.delay, .int .i64 C.T.cons, .int .i64 C.T.rate, .int .i64 C.mode, .int .i64 C.brake, .int .i64 C.next, .int .i64 C.emin, .int .i64 C.emax, .int .i64 C.espeed, .int .i64 C.seq, .int .i64 C.en, .slice B C.p.length cb, .slice K C.k.length ck, .int .i64 C.peer, .int .i64 C.out, .int .i64 C.inn, .int .i64 C.heard, .bool C.known, .int .i64 C.since] [.slice A way.length c, .int .i64 head, .int .i64 len, .int .i64 v', .int .i64 x, .int .i64 b', .int .i64 C.T.id, .string C.T.name, .int .i64 C.T.len, .int .i64 C.T.speed, .int .i64 C.T.accel, .int .i64 C.T.service, .int .i64 C.T.emergency, .int .i64 C.T.delay, .int .i64 C.T.cons, .int .i64 C.T.rate, .int .i64 C.mode, .int .i64 C.brake, .int .i64 C.next, .int .i64 C.emin, .int .i64 C.emax, .int .i64 C.espeed, .int .i64 C.seq, .int .i64 C.en, .slice B C.p.length cb, .slice K C.k.length ck, .int .i64 C.peer, .int .i64 C.out, .int .i64 C.inn, .int .i64 C.heard, .bool C.known, .int .i64 C.since] rfl rfl rfl P6.out rfl szUnt rfl (by show (0 + 32 : Nat) ≤ 32; decide) rfl ?_; intro w7 H7))
    (try simp only [Exit.noGoto, Exit.jump])
    exact bodyPost_ret (res_c (by rfl) (by rfl) H7.out.1.cells Tryd.underlying49 szUnt) rfl ⟨rfl, eonly X6.out H7.out.2 (by omega)⟩
end
end Go.Proofs.YticonpjkcocgeaaDoor
