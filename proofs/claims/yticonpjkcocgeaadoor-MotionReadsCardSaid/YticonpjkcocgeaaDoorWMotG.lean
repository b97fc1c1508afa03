/- Walks of the comparisons, on things that are equal. Printed by gen_motg.py. -/
import Derived.Test.YticonpjkcocgeaaDoorWMotE
set_option linter.unusedVariables false
set_option linter.unusedSimpArgs false
set_option maxRecDepth 100000
namespace Go.Proofs.YticonpjkcocgeaaDoor
open Go.ChangeShapes Go.WideShapes Go.ChangeAt Go.RowKit
open Sg

theorem eqT_self (T : Tr) : eqT T T = true := by simp [eqT]
theorem neq_self_tr (T : Tr) (w : World) : (binOp .neq 35 (.agg #[.int .i64 T.id, .string T.name, .int .i64 T.len, .int .i64 T.speed, .int .i64 T.accel, .int .i64 T.service, .int .i64 T.emergency, .int .i64 T.delay, .int .i64 T.cons, .int .i64 T.rate]) (.agg #[.int .i64 T.id, .string T.name, .int .i64 T.len, .int .i64 T.speed, .int .i64 T.accel, .int .i64 T.service, .int .i64 T.emergency, .int .i64 T.delay, .int .i64 T.cons, .int .i64 T.rate])).run Tryd.prog w = .ok (.bool false) w := by rw [neq_tr, eqT_self]; rfl
section
set_option maxHeartbeats 16000000
theorem same11_any (A : Option Addr) (way : List Stp) (c : Nat) (A' : Option Addr) (c' : Nat) (head len : Int) (w : World) (hr : Rd w A 3 Stc way) (hr2 : Rd w A' 3 Stc way) (hm : way.length ≤ maxLen) : Calls Tryd.prog 50 #[.agg #[.slice A way.length c, .int .i64 head, .int .i64 len], .agg #[.slice A' way.length c', .int .i64 head, .int .i64 len]] w fun e w' => e = .returned (.bool true) ∧ Below w.heap.size w w' := by
  unfold maxLen at hm
  have HR := Lib.hid hr
  have HR2 := Lib.hid hr2
  clear hr hr2
  go_enter Tryd.func50, Tryd.ntmps50
  go_wp2
  go_loopg [5] way.length (fun g ix wr => ∃ k : Nat, ix = .int .i64 k ∧ k ≤ way.length ∧ g = way.length - k ∧ Hid (Ext w wr ∧ BdyAt wr w.heap.size A way c head len ∧ BdyAt wr (w.heap.size + 1) A' way c' head len))
  case atStart => exact ⟨0, rfl, by omega, rfl, eal (eal (Ext.refl _) _) _, CellsAt.keep (CellsAt.new rfl) (eal (Ext.refl _) _), CellsAt.new (by simp)⟩
  case round =>
    obtain ⟨k, rfl, hk, hg, H⟩ := hrel
    have HG := Lib.hid hg
    clear hg
    obtain ⟨b0, b1, b2, b3⟩ := bdyAt_cells H.out.2.1
    obtain ⟨d0, d1, d2, d3⟩ := bdyAt_cells H.out.2.2
    by_cases hlt : k < way.length
    · have q0 : decide ((k : Int) < (way.length : Int)) = true := decide_eq_true (by omega)
      obtain ⟨bw, ow, s, rfl, hs, hbs, s0, s1, s2⟩ := rd_st HR.out H.out.1 hlt
      obtain ⟨bv, ov, s', rfl, hs', hbv, t0, t1, t2⟩ := rd_st HR2.out H.out.1 hlt
      rw [hs] at hs'
      cases hs'
      clear hs
      go_upto_region 6 with (fail)
      refine wp_region_after (by kernel_rfl) (by kernel_rfl) ?_
      repeat (first | go_big_quiet_step (fail))
      refine wpQuiet_nil ?_
      rintro _ ⟨y, rfl⟩
      go_wp2
      go_roundg (way.length - (k + 1))
      case measure => have := HG.out; omega
      case rel => exact ⟨k + 1, by go_num, by omega, rfl, etr H.out.1 y.is, H.out.2.1.keep y.is, H.out.2.2.keep y.is⟩
    · have q0 : decide ((k : Int) < (way.length : Int)) = false := decide_eq_false (by omega)
      go_wp2
      go_ret
      exact ⟨rfl, H.out.1⟩
theorem same32_any (A : Option Addr) (xs : List Lnk) (c : Nat) (A' : Option Addr) (c' : Nat) (w : World) (hr : Rd w A 2 Lkc xs) (hr2 : Rd w A' 2 Lkc xs) (hm : xs.length ≤ maxLen) : Calls Tryd.prog 78 #[.slice A xs.length c, .slice A' xs.length c'] w fun e w' => e = .returned (.bool true) ∧ Below w.heap.size w w' := by
  unfold maxLen at hm
  have HR := Lib.hid hr
  have HR2 := Lib.hid hr2
  clear hr hr2
  go_enter Tryd.func78, Tryd.ntmps78
  go_wp2
  go_loopg [5] xs.length (fun g ix wr => ∃ k : Nat, ix = .int .i64 k ∧ k ≤ xs.length ∧ g = xs.length - k ∧ Hid (Ext w wr))
  case atStart => exact ⟨0, rfl, by omega, rfl, Ext.refl _⟩
  case round =>
    obtain ⟨k, rfl, hk, hg, H⟩ := hrel
    have HG := Lib.hid hg
    clear hg
    by_cases hlt : k < xs.length
    · have q0 : decide ((k : Int) < (xs.length : Int)) = true := decide_eq_true (by omega)
      obtain ⟨bw, ow, s, rfl, hs, hbs, s0, s1⟩ := rd_lnk HR.out H.out hlt
      obtain ⟨bv, ov, s', rfl, hs', hbv, t0, t1⟩ := rd_lnk HR2.out H.out hlt
      rw [hs] at hs'
      cases hs'
      clear hs
      go_upto_region 6 with (fail)
      refine wp_region_after (by kernel_rfl) (by kernel_rfl) ?_
      repeat (first | go_big_quiet_step (fail))
      refine wpQuiet_nil ?_
      rintro _ ⟨y, rfl⟩
      go_wp2
      go_roundg (xs.length - (k + 1))
      case measure => have := HG.out; omega
      case rel => exact ⟨k + 1, by go_num, by omega, rfl, etr H.out y.is⟩
    · have q0 : decide ((k : Int) < (xs.length : Int)) = false := decide_eq_false (by omega)
      go_wp2
      go_ret
      exact ⟨rfl, H.out⟩
theorem sameCab_any (C : Cu) (B : Option Addr) (cb : Nat) (K : Option Addr) (ck : Nat) (B' : Option Addr) (cb' : Nat) (K' : Option Addr) (ck' : Nat) (w : World) (hp : Rd w B 4 Sgc C.p) (hp2 : Rd w B' 4 Sgc C.p) (hpm : C.p.length ≤ maxLen) (hk : Rd w K 2 Lkc C.k) (hk2 : Rd w K' 2 Lkc C.k) (hkm : C.k.length ≤ maxLen) :
    Calls Tryd.prog 51 #[.agg #[.int .i64 C.T.id, .string C.T.name, .int .i64 C.T.len, .int .i64 C.T.speed, .int .i64 C.T.accel, .int .i64 C.T.service, .int .i64 C.T.emergency, .int .i64 C.T.delay, .int .i64 C.T.cons, .int .i64 C.T.rate, .int .i64 C.mode, .int .i64 C.brake, .int .i64 C.next, .int .i64 C.emin, .int .i64 C.emax, .int .i64 C.espeed, .int .i64 C.seq, .int .i64 C.en, .slice B C.p.length cb, .slice K C.k.length ck, .int .i64 C.peer, .int .i64 C.out, .int .i64 C.inn, .int .i64 C.heard, .bool C.known, .int .i64 C.since], .agg #[.int .i64 C.T.id, .string C.T.name, .int .i64 C.T.len, .int .i64 C.T.speed, .int .i64 C.T.accel, .int .i64 C.T.service, .int .i64 C.T.emergency, .int .i64 C.T.delay, .int .i64 C.T.cons, .int .i64 C.T.rate, .int .i64 C.mode, .int .i64 C.brake, .int .i64 C.next, .int .i64 C.emin, .int .i64 C.emax, .int .i64 C.espeed, .int .i64 C.seq, .int .i64 C.en, .slice B' C.p.length cb', .slice K' C.k.length ck', .int .i64 C.peer, .int .i64 C.out, .int .i64 C.inn, .int .i64 C.heard, .bool C.known, .int .i64 C.since]] w fun e w' => e = .returned (.bool true) ∧ Below w.heap.size w w' := by
  have hpm2 := hpm
  unfold maxLen at hpm2
  have HP := Lib.hid hp
  have HP2 := Lib.hid hp2
  have HS : Hid (∀ w' : World, Ext w w' → Calls Tryd.prog 78 #[.slice K C.k.length ck, .slice K' C.k.length ck'] w' fun e w2 => e = .returned (.bool true) ∧ Below w'.heap.size w' w2) := fun w' h => same32_any K C.k ck K' ck' w' (hk.keep h) (hk2.keep h) hkm
  have hne := fun x => neq_self_tr C.T x
  clear hp hp2 hpm hk hk2 hkm
  have HO1 : Hid (Own ((w.alloc (.cells #[.int .i64 C.T.id, .string C.T.name, .int .i64 C.T.len, .int .i64 C.T.speed, .int .i64 C.T.accel, .int .i64 C.T.service, .int .i64 C.T.emergency, .int .i64 C.T.delay, .int .i64 C.T.cons, .int .i64 C.T.rate, .int .i64 C.mode, .int .i64 C.brake, .int .i64 C.next, .int .i64 C.emin, .int .i64 C.emax, .int .i64 C.espeed, .int .i64 C.seq, .int .i64 C.en, .slice B C.p.length cb, .slice K C.k.length ck, .int .i64 C.peer, .int .i64 C.out, .int .i64 C.inn, .int .i64 C.heard, .bool C.known, .int .i64 C.since] 47)).alloc (.cells #[.int .i64 C.T.id, .string C.T.name, .int .i64 C.T.len, .int .i64 C.T.speed, .int .i64 C.T.accel, .int .i64 C.T.service, .int .i64 C.T.emergency, .int .i64 C.T.delay, .int .i64 C.T.cons, .int .i64 C.T.rate, .int .i64 C.mode, .int .i64 C.brake, .int .i64 C.next, .int .i64 C.emin, .int .i64 C.emax, .int .i64 C.espeed, .int .i64 C.seq, .int .i64 C.en, .slice B' C.p.length cb', .slice K' C.k.length ck', .int .i64 C.peer, .int .i64 C.out, .int .i64 C.inn, .int .i64 C.heard, .bool C.known, .int .i64 C.since] 47)) w.heap.size [.int .i64 C.T.id, .string C.T.name, .int .i64 C.T.len, .int .i64 C.T.speed, .int .i64 C.T.accel, .int .i64 C.T.service, .int .i64 C.T.emergency, .int .i64 C.T.delay, .int .i64 C.T.cons, .int .i64 C.T.rate, .int .i64 C.mode, .int .i64 C.brake, .int .i64 C.next, .int .i64 C.emin, .int .i64 C.emax, .int .i64 C.espeed, .int .i64 C.seq, .int .i64 C.en, .slice B C.p.length cb, .slice K C.k.length ck, .int .i64 C.peer, .int .i64 C.out, .int .i64 C.inn, .int .i64 C.heard, .bool C.known, .int .i64 C.since]) := (Own.new rfl).alloc _
  have HO2 : Hid (Own ((w.alloc (.cells #[.int .i64 C.T.id, .string C.T.name, .int .i64 C.T.len, .int .i64 C.T.speed, .int .i64 C.T.accel, .int .i64 C.T.service, .int .i64 C.T.emergency, .int .i64 C.T.delay, .int .i64 C.T.cons, .int .i64 C.T.rate, .int .i64 C.mode, .int .i64 C.brake, .int .i64 C.next, .int .i64 C.emin, .int .i64 C.emax, .int .i64 C.espeed, .int .i64 C.seq, .int .i64 C.en, .slice B C.p.length cb, .slice K C.k.length ck, .int .i64 C.peer, .int .i64 C.out, .int .i64 C.inn, .int .i64 C.heard, .bool C.known, .int .i64 C.since] 47)).alloc (.cells #[.int .i64 C.T.id, .string C.T.name, .int .i64 C.T.len, .int .i64 C.T.speed, .int .i64 C.T.accel, .int .i64 C.T.service, .int .i64 C.T.emergency, .int .i64 C.T.delay, .int .i64 C.T.cons, .int .i64 C.T.rate, .int .i64 C.mode, .int .i64 C.brake, .int .i64 C.next, .int .i64 C.emin, .int .i64 C.emax, .int .i64 C.espeed, .int .i64 C.seq, .int .i64 C.en, .slice B' C.p.length cb', .slice K' C.k.length ck', .int .i64 C.peer, .int .i64 C.out, .int .i64 C.inn, .int .i64 C.heard, .bool C.known, .int .i64 C.since] 47)) (w.heap.size + 1) [.int .i64 C.T.id, .string C.T.name, .int .i64 C.T.len, .int .i64 C.T.speed, .int .i64 C.T.accel, .int .i64 C.T.service, .int .i64 C.T.emergency, .int .i64 C.T.delay, .int .i64 C.T.cons, .int .i64 C.T.rate, .int .i64 C.mode, .int .i64 C.brake, .int .i64 C.next, .int .i64 C.emin, .int .i64 C.emax, .int .i64 C.espeed, .int .i64 C.seq, .int .i64 C.en, .slice B' C.p.length cb', .slice K' C.k.length ck', .int .i64 C.peer, .int .i64 C.out, .int .i64 C.inn, .int .i64 C.heard, .bool C.known, .int .i64 C.since]) := Own.new (by simp)
  go_enter Tryd.func51, Tryd.ntmps51
  go_wp2_with (first | (refine wp_ldN 35 [.int .i64 C.T.id, .string C.T.name, .int .i64 C.T.len, .int .i64 C.T.speed, .int .i64 C.T.accel, .int .i64 C.T.service, .int .i64 C.T.emergency, .int .i64 C.T.delay, .int .i64 C.T.cons, .int .i64 C.T.rate] rfl rfl rfl HO1.out.cells Tryd.underlying35 szTr rfl ?_) | (refine wp_ldN 35 [.int .i64 C.T.id, .string C.T.name, .int .i64 C.T.len, .int .i64 C.T.speed, .int .i64 C.T.accel, .int .i64 C.T.service, .int .i64 C.T.emergency, .int .i64 C.T.delay, .int .i64 C.T.cons, .int .i64 C.T.rate] rfl rfl rfl HO2.out.cells Tryd.underlying35 szTr rfl ?_) | (refine wp_ldG 37 [.int .i64 C.emin, .int .i64 C.emax, .int .i64 C.espeed] rfl rfl rfl HO1.out.cells Tryd.underlying37 szEst rfl ?_) | (refine wp_ldG 37 [.int .i64 C.emin, .int .i64 C.emax, .int .i64 C.espeed] rfl rfl rfl HO2.out.cells Tryd.underlying37 szEst rfl ?_) | (refine wp_ldG 43 [.int .i64 C.peer, .int .i64 C.out, .int .i64 C.inn, .int .i64 C.heard] rfl rfl rfl HO1.out.cells Tryd.underlying43 szSes rfl ?_) | (refine wp_ldG 43 [.int .i64 C.peer, .int .i64 C.out, .int .i64 C.inn, .int .i64 C.heard] rfl rfl rfl HO2.out.cells Tryd.underlying43 szSes rfl ?_) | (refine wp_ldG 45 [.bool C.known, .int .i64 C.since] rfl rfl rfl HO1.out.cells Tryd.underlying45 szTai rfl ?_) | (refine wp_ldG 45 [.bool C.known, .int .i64 C.since] rfl rfl rfl HO2.out.cells Tryd.underlying45 szTai rfl ?_))
  go_loopg [5] C.p.length (fun g ix wr => ∃ k : Nat, ix = .int .i64 k ∧ k ≤ C.p.length ∧ g = C.p.length - k ∧ Hid (Ext w wr) ∧ Hid (Own wr w.heap.size [.int .i64 C.T.id, .string C.T.name, .int .i64 C.T.len, .int .i64 C.T.speed, .int .i64 C.T.accel, .int .i64 C.T.service, .int .i64 C.T.emergency, .int .i64 C.T.delay, .int .i64 C.T.cons, .int .i64 C.T.rate, .int .i64 C.mode, .int .i64 C.brake, .int .i64 C.next, .int .i64 C.emin, .int .i64 C.emax, .int .i64 C.espeed, .int .i64 C.seq, .int .i64 C.en, .slice B C.p.length cb, .slice K C.k.length ck, .int .i64 C.peer, .int .i64 C.out, .int .i64 C.inn, .int .i64 C.heard, .bool C.known, .int .i64 C.since]) ∧ Hid (Own wr (w.heap.size + 1) [.int .i64 C.T.id, .string C.T.name, .int .i64 C.T.len, .int .i64 C.T.speed, .int .i64 C.T.accel, .int .i64 C.T.service, .int .i64 C.T.emergency, .int .i64 C.T.delay, .int .i64 C.T.cons, .int .i64 C.T.rate, .int .i64 C.mode, .int .i64 C.brake, .int .i64 C.next, .int .i64 C.emin, .int .i64 C.emax, .int .i64 C.espeed, .int .i64 C.seq, .int .i64 C.en, .slice B' C.p.length cb', .slice K' C.k.length ck', .int .i64 C.peer, .int .i64 C.out, .int .i64 C.inn, .int .i64 C.heard, .bool C.known, .int .i64 C.since]))
  case atStart => exact ⟨0, rfl, by omega, rfl, eal (eal (Ext.refl _) _) _, HO1.out, HO2.out⟩
  case round =>
    obtain ⟨k, rfl, hk, hg, HX, O1, O2⟩ := hrel
    have HG := Lib.hid hg
    clear hg HO1 HO2
    have b18 := O1.out.2.1 18 _ rfl
    have b19 := O1.out.2.1 19 _ rfl
    have bz := O1.out.1
    have d18 := O2.out.2.1 18 _ rfl
    have d19 := O2.out.2.1 19 _ rfl
    have dz := O2.out.1
    by_cases hlt : k < C.p.length
    · have q0 : decide ((k : Int) < (C.p.length : Int)) = true := decide_eq_true (by omega)
      obtain ⟨bw, ow, s, hA, hs, hbs, s0, s1, s2, s3⟩ := rd_seg HP.out HX.out hlt
      obtain ⟨bv, ov, s', hA', hs', hbv, t0, t1, t2, t3⟩ := rd_seg HP2.out HX.out hlt
      rw [hs] at hs'
      cases hs'
      clear hs
      subst hA hA'
      go_upto_region 6 with (fail)
      refine wp_region_after (by kernel_rfl) (by kernel_rfl) ?_
      repeat (first | go_big_quiet_step (fail))
      refine wpQuiet_nil ?_
      rintro _ ⟨y, rfl⟩
      go_wp2
      go_roundg (C.p.length - (k + 1))
      case measure => have := HG.out; omega
      case rel => exact ⟨k + 1, by go_num, by omega, rfl, etr HX.out y.is, O1.out.keep y.is, O2.out.keep y.is⟩
    · have q0 : decide ((k : Int) < (C.p.length : Int)) = false := decide_eq_false (by omega)
      go_wp2_with (go_at_call 78; refine (to_after (HS.out _ HX.out)).mono ?_; rintro e w' ⟨z, rfl, rfl⟩)
      go_ret
      exact ⟨rfl, etr HX.out z.is⟩
theorem sameU_any (A : Option Addr) (way : List Stp) (c : Nat) (head len speed x br : Int) (C : Cu) (B : Option Addr) (cb : Nat) (K : Option Addr) (ck : Nat) (A' : Option Addr) (c' : Nat) (B' : Option Addr) (cb' : Nat) (K' : Option Addr) (ck' : Nat) (w : World) (hr : Rd w A 3 Stc way) (hr2 : Rd w A' 3 Stc way) (hm : way.length ≤ maxLen) (hp : Rd w B 4 Sgc C.p) (hp2 : Rd w B' 4 Sgc C.p) (hpm : C.p.length ≤ maxLen) (hk : Rd w K 2 Lkc C.k) (hk2 : Rd w K' 2 Lkc C.k) (hkm : C.k.length ≤ maxLen) :
    Calls Tryd.prog 19 #[.agg #[.slice A way.length c, .int .i64 head, .int .i64 len, .int .i64 speed, .int .i64 x, .int .i64 br, .int .i64 C.T.id, .string C.T.name, .int .i64 C.T.len, .int .i64 C.T.speed, .int .i64 C.T.accel, .int .i64 C.T.service, .int .i64 C.T.emergency, .int .i64 C.T.delay, .int .i64 C.T.cons, .int .i64 C.T.rate, .int .i64 C.mode, .int .i64 C.brake, .int .i64 C.next, .int .i64 C.emin, .int .i64 C.emax, .int .i64 C.espeed, .int .i64 C.seq, .int .i64 C.en, .slice B C.p.length cb, .slice K C.k.length ck, .int .i64 C.peer, .int .i64 C.out, .int .i64 C.inn, .int .i64 C.heard, .bool C.known, .int .i64 C.since], .agg #[.slice A' way.length c', .int .i64 head, .int .i64 len, .int .i64 speed, .int .i64 x, .int .i64 br, .int .i64 C.T.id, .string C.T.name, .int .i64 C.T.len, .int .i64 C.T.speed, .int .i64 C.T.accel, .int .i64 C.T.service, .int .i64 C.T.emergency, .int .i64 C.T.delay, .int .i64 C.T.cons, .int .i64 C.T.rate, .int .i64 C.mode, .int .i64 C.brake, .int .i64 C.next, .int .i64 C.emin, .int .i64 C.emax, .int .i64 C.espeed, .int .i64 C.seq, .int .i64 C.en, .slice B' C.p.length cb', .slice K' C.k.length ck', .int .i64 C.peer, .int .i64 C.out, .int .i64 C.inn, .int .i64 C.heard, .bool C.known, .int .i64 C.since]] w fun e w' => e = .returned (.bool true) ∧ Below w.heap.size w w' := by
  have H11 : Hid (∀ w' : World, Ext w w' → Calls Tryd.prog 50 #[.agg #[.slice A way.length c, .int .i64 head, .int .i64 len], .agg #[.slice A' way.length c', .int .i64 head, .int .i64 len]] w' fun e w2 => e = .returned (.bool true) ∧ Below w'.heap.size w' w2) := fun w' h => same11_any A way c A' c' head len w' (hr.keep h) (hr2.keep h) hm
  have HCB : Hid (∀ w' : World, Ext w w' → Calls Tryd.prog 51 #[.agg #[.int .i64 C.T.id, .string C.T.name, .int .i64 C.T.len, .int .i64 C.T.speed, .int .i64 C.T.accel, .int .i64 C.T.service, .int .i64 C.T.emergency, .int .i64 C.T.delay, .int .i64 C.T.cons, .int .i64 C.T.rate, .int .i64 C.mode, .int .i64 C.brake, .int .i64 C.next, .int .i64 C.emin, .int .i64 C.emax, .int .i64 C.espeed, .int .i64 C.seq, .int .i64 C.en, .slice B C.p.length cb, .slice K C.k.length ck, .int .i64 C.peer, .int .i64 C.out, .int .i64 C.inn, .int .i64 C.heard, .bool C.known, .int .i64 C.since], .agg #[.int .i64 C.T.id, .string C.T.name, .int .i64 C.T.len, .int .i64 C.T.speed, .int .i64 C.T.accel, .int .i64 C.T.service, .int .i64 C.T.emergency, .int .i64 C.T.delay, .int .i64 C.T.cons, .int .i64 C.T.rate, .int .i64 C.mode, .int .i64 C.brake, .int .i64 C.next, .int .i64 C.emin, .int .i64 C.emax, .int .i64 C.espeed, .int .i64 C.seq, .int .i64 C.en, .slice B' C.p.length cb', .slice K' C.k.length ck', .int .i64 C.peer, .int .i64 C.out, .int .i64 C.inn, .int .i64 C.heard, .bool C.known, .int .i64 C.since]] w' fun e w2 => e = .returned (.bool true) ∧ Below w'.heap.size w' w2) := fun w' h => sameCab_any C B cb K ck B' cb' K' ck' w' (hp.keep h) (hp2.keep h) hpm (hk.keep h) (hk2.keep h) hkm
  clear hr hr2 hm hp hp2 hpm hk hk2 hkm
  have HO1 : Hid (Own ((w.alloc (.cells #[.slice A way.length c, .int .i64 head, .int .i64 len, .int .i64 speed, .int .i64 x, .int .i64 br, .int .i64 C.T.id, .string C.T.name, .int .i64 C.T.len, .int .i64 C.T.speed, .int .i64 C.T.accel, .int .i64 C.T.service, .int .i64 C.T.emergency, .int .i64 C.T.delay, .int .i64 C.T.cons, .int .i64 C.T.rate, .int .i64 C.mode, .int .i64 C.brake, .int .i64 C.next, .int .i64 C.emin, .int .i64 C.emax, .int .i64 C.espeed, .int .i64 C.seq, .int .i64 C.en, .slice B C.p.length cb, .slice K C.k.length ck, .int .i64 C.peer, .int .i64 C.out, .int .i64 C.inn, .int .i64 C.heard, .bool C.known, .int .i64 C.since] 49)).alloc (.cells #[.slice A' way.length c', .int .i64 head, .int .i64 len, .int .i64 speed, .int .i64 x, .int .i64 br, .int .i64 C.T.id, .string C.T.name, .int .i64 C.T.len, .int .i64 C.T.speed, .int .i64 C.T.accel, .int .i64 C.T.service, .int .i64 C.T.emergency, .int .i64 C.T.delay, .int .i64 C.T.cons, .int .i64 C.T.rate, .int .i64 C.mode, .int .i64 C.brake, .int .i64 C.next, .int .i64 C.emin, .int .i64 C.emax, .int .i64 C.espeed, .int .i64 C.seq, .int .i64 C.en, .slice B' C.p.length cb', .slice K' C.k.length ck', .int .i64 C.peer, .int .i64 C.out, .int .i64 C.inn, .int .i64 C.heard, .bool C.known, .int .i64 C.since] 49)) w.heap.size [.slice A way.length c, .int .i64 head, .int .i64 len, .int .i64 speed, .int .i64 x, .int .i64 br, .int .i64 C.T.id, .string C.T.name, .int .i64 C.T.len, .int .i64 C.T.speed, .int .i64 C.T.accel, .int .i64 C.T.service, .int .i64 C.T.emergency, .int .i64 C.T.delay, .int .i64 C.T.cons, .int .i64 C.T.rate, .int .i64 C.mode, .int .i64 C.brake, .int .i64 C.next, .int .i64 C.emin, .int .i64 C.emax, .int .i64 C.espeed, .int .i64 C.seq, .int .i64 C.en, .slice B C.p.length cb, .slice K C.k.length ck, .int .i64 C.peer, .int .i64 C.out, .int .i64 C.inn, .int .i64 C.heard, .bool C.known, .int .i64 C.since]) := (Own.new rfl).alloc _
  have HO2 : Hid (Own ((w.alloc (.cells #[.slice A way.length c, .int .i64 head, .int .i64 len, .int .i64 speed, .int .i64 x, .int .i64 br, .int .i64 C.T.id, .string C.T.name, .int .i64 C.T.len, .int .i64 C.T.speed, .int .i64 C.T.accel, .int .i64 C.T.service, .int .i64 C.T.emergency, .int .i64 C.T.delay, .int .i64 C.T.cons, .int .i64 C.T.rate, .int .i64 C.mode, .int .i64 C.brake, .int .i64 C.next, .int .i64 C.emin, .int .i64 C.emax, .int .i64 C.espeed, .int .i64 C.seq, .int .i64 C.en, .slice B C.p.length cb, .slice K C.k.length ck, .int .i64 C.peer, .int .i64 C.out, .int .i64 C.inn, .int .i64 C.heard, .bool C.known, .int .i64 C.since] 49)).alloc (.cells #[.slice A' way.length c', .int .i64 head, .int .i64 len, .int .i64 speed, .int .i64 x, .int .i64 br, .int .i64 C.T.id, .string C.T.name, .int .i64 C.T.len, .int .i64 C.T.speed, .int .i64 C.T.accel, .int .i64 C.T.service, .int .i64 C.T.emergency, .int .i64 C.T.delay, .int .i64 C.T.cons, .int .i64 C.T.rate, .int .i64 C.mode, .int .i64 C.brake, .int .i64 C.next, .int .i64 C.emin, .int .i64 C.emax, .int .i64 C.espeed, .int .i64 C.seq, .int .i64 C.en, .slice B' C.p.length cb', .slice K' C.k.length ck', .int .i64 C.peer, .int .i64 C.out, .int .i64 C.inn, .int .i64 C.heard, .bool C.known, .int .i64 C.since] 49)) (w.heap.size + 1) [.slice A' way.length c', .int .i64 head, .int .i64 len, .int .i64 speed, .int .i64 x, .int .i64 br, .int .i64 C.T.id, .string C.T.name, .int .i64 C.T.len, .int .i64 C.T.speed, .int .i64 C.T.accel, .int .i64 C.T.service, .int .i64 C.T.emergency, .int .i64 C.T.delay, .int .i64 C.T.cons, .int .i64 C.T.rate, .int .i64 C.mode, .int .i64 C.brake, .int .i64 C.next, .int .i64 C.emin, .int .i64 C.emax, .int .i64 C.espeed, .int .i64 C.seq, .int .i64 C.en, .slice B' C.p.length cb', .slice K' C.k.length ck', .int .i64 C.peer, .int .i64 C.out, .int .i64 C.inn, .int .i64 C.heard, .bool C.known, .int .i64 C.since]) := Own.new (by simp)
  go_enter Tryd.func19, Tryd.ntmps19
  go_wp2_with (first | (go_at_call 50; refine (to_after (H11.out _ (eal (eal (Ext.refl _) _) _))).mono ?_; rintro e w' ⟨y, rfl, rfl⟩; have O1 := Lib.hid (HO1.out.keep y.is); have O2 := Lib.hid (HO2.out.keep y.is); have b3 := O1.out.2.1 3 _ rfl; have b4 := O1.out.2.1 4 _ rfl; have b5 := O1.out.2.1 5 _ rfl; have d3 := O2.out.2.1 3 _ rfl; have d4 := O2.out.2.1 4 _ rfl; have d5 := O2.out.2.1 5 _ rfl; have bz := O1.out.1; have dz := O2.out.1) | (go_at_call 51; refine (to_after (HCB.out _ (etr (eal (eal (Ext.refl _) _) _) y.is))).mono ?_; rintro e w' ⟨z, rfl, rfl⟩) | (refine wp_ldG 47 [.int .i64 C.T.id, .string C.T.name, .int .i64 C.T.len, .int .i64 C.T.speed, .int .i64 C.T.accel, .int .i64 C.T.service, .int .i64 C.T.emergency, .int .i64 C.T.delay, .int .i64 C.T.cons, .int .i64 C.T.rate, .int .i64 C.mode, .int .i64 C.brake, .int .i64 C.next, .int .i64 C.emin, .int .i64 C.emax, .int .i64 C.espeed, .int .i64 C.seq, .int .i64 C.en, .slice B C.p.length cb, .slice K C.k.length ck, .int .i64 C.peer, .int .i64 C.out, .int .i64 C.inn, .int .i64 C.heard, .bool C.known, .int .i64 C.since] rfl rfl rfl O1.out.cells Tryd.underlying47 szCab rfl ?_) | (refine wp_ldG 47 [.int .i64 C.T.id, .string C.T.name, .int .i64 C.T.len, .int .i64 C.T.speed, .int .i64 C.T.accel, .int .i64 C.T.service, .int .i64 C.T.emergency, .int .i64 C.T.delay, .int .i64 C.T.cons, .int .i64 C.T.rate, .int .i64 C.mode, .int .i64 C.brake, .int .i64 C.next, .int .i64 C.emin, .int .i64 C.emax, .int .i64 C.espeed, .int .i64 C.seq, .int .i64 C.en, .slice B' C.p.length cb', .slice K' C.k.length ck', .int .i64 C.peer, .int .i64 C.out, .int .i64 C.inn, .int .i64 C.heard, .bool C.known, .int .i64 C.since] rfl rfl rfl O2.out.cells Tryd.underlying47 szCab rfl ?_))
  go_ret
  exact ⟨rfl, etr (etr (eal (eal (Ext.refl _) _) _) y.is) z.is⟩
end
end Go.Proofs.YticonpjkcocgeaaDoor
