/- Walks of chapter 34's laws: Stops. -/
import Derived.Test.YthkknagicdanfaaWLawI7
import Derived.Test.YthkknagicdanfaaWOdo2
import Derived.Deep.Cut
set_option linter.unusedVariables false
set_option linter.unusedSimpArgs false
namespace Go.Proofs.Ythkknagicdanfaa
open Go.ChangeShapes Go.WideShapes Go.ChangeAt Go.RowKit
open Sg

set_option maxHeartbeats 32000000 in
set_option maxRecDepth 100000 in
theorem stops_walk (T : Tr) (sq en : Int) (A LA : Option Addr) (p : List Sgm) (cap ln lc : Nat) (X V Bk Fr Fa : Int) (TA : Option Addr) (ts : List Trn) (tc : Nat) (w : World) (hs : T.name.size ≤ maxLen) (hpl : p.length ≤ maxLen) (htl : ts.length ≤ maxLen) (hr : Rd w A 4 Sgc p) (ht : Rd w TA 3 Trc ts) (hI : ∀ (i : Nat) (x : Trn), ts[i]? = some x → TrnI x) :
    Calls Try.prog 7 #[.agg #[.int .i64 T.id, .string T.name, .int .i64 T.len, .int .i64 T.speed, .int .i64 T.accel, .int .i64 T.service, .int .i64 T.emergency, .int .i64 T.delay, .int .i64 T.cons, .int .i64 T.rate], .agg #[.int .i64 sq, .int .i64 en, .slice A p.length cap, .slice LA ln lc], .agg #[.int .i64 X, .int .i64 V, .int .i64 Bk, .int .i64 Fr, .int .i64 Fa, .slice TA ts.length tc]] w fun e w' => e = .returned (.bool true) ∧ Below w.heap.size w w' := by
  have HR := Lib.hid hr
  have HT := Lib.hid ht
  have HI := Lib.hid hI
  clear hr ht hI
  by_cases hbad : (100 : Int) < (ts.length : Int) ∨ X < 0 ∨ 268435456 < X ∨ V < 0 ∨ 10000 < V ∨ Bk < 0 ∨ X < Bk ∨ Fr < 0 ∨ 1048576 < Fr ∨ Fa < 0 ∨ 1048576 < Fa ∨ en < 0 ∨ 268435456 < en
  · exact stops_early T sq en A LA p cap ln lc X V Bk Fr Fa TA ts tc w hs hpl htl HR.out HT.out HI.out hbad
  simp only [not_or] at hbad
  obtain ⟨g0, g1, g2, g3, g4, g5, g6, g7, g8, g9, g10, g11, g12⟩ := hbad
  have g0d : decide ((100 : Int) < (ts.length : Int)) = false := decide_eq_false g0
  have g1d : decide (X < 0) = false := decide_eq_false g1
  have g2d : decide (268435456 < X) = false := decide_eq_false g2
  have g3d : decide (V < 0) = false := decide_eq_false g3
  have g4d : decide (10000 < V) = false := decide_eq_false g4
  have g5d : decide (Bk < 0) = false := decide_eq_false g5
  have g6d : decide (X < Bk) = false := decide_eq_false g6
  have g7d : decide (Fr < 0) = false := decide_eq_false g7
  have g8d : decide (1048576 < Fr) = false := decide_eq_false g8
  have g9d : decide (Fa < 0) = false := decide_eq_false g9
  have g10d : decide (1048576 < Fa) = false := decide_eq_false g10
  have g11d : decide (en < 0) = false := decide_eq_false g11
  have g12d : decide (268435456 < en) = false := decide_eq_false g12
  have hx1 := IntWalk.i64_in (X - Bk) (by omega)
  have hx2 := IntWalk.i64_in (X + Fr) (by omega)
  have hx3 := IntWalk.i64_in (V + Fa) (by omega)
  obtain ⟨E, hE⟩ : ∃ E : Es, E = ⟨X - Bk, X + Fr, V + Fa⟩ := ⟨_, rfl⟩
  have hEm : E.min = X - Bk := by rw [hE]
  have hEx : E.max = X + Fr := by rw [hE]
  have hEs : E.speed = V + Fa := by rw [hE]
  clear hE
  have HEQ : Hid (E.min = X - Bk ∧ E.max = X + Fr ∧ E.speed = V + Fa) := ⟨hEm, hEx, hEs⟩
  clear hEm hEx hEs
  obtain ⟨w1, hw⟩ : ∃ w1, w1 = (((w.alloc (.cells #[.int .i64 T.id, .string T.name, .int .i64 T.len, .int .i64 T.speed, .int .i64 T.accel, .int .i64 T.service, .int .i64 T.emergency, .int .i64 T.delay, .int .i64 T.cons, .int .i64 T.rate] 23)).alloc (.cells #[.int .i64 sq, .int .i64 en, .slice A p.length cap, .slice LA ln lc] 27)).alloc (.cells #[.int .i64 X, .int .i64 V, .int .i64 Bk, .int .i64 Fr, .int .i64 Fa, .slice TA ts.length tc] 42)).alloc (.cells #[.int .i64 (X - Bk), .int .i64 (X + Fr), .int .i64 (V + Fa)] 29) := ⟨_, rfl⟩
  have HE0 : Hid (Ext w w1) := by rw [hw]; exact eal (eal (eal (eal (Ext.refl w) _) _) _) _
  have HCT : Hid (CellsAt w1 w.heap.size [.int .i64 T.id, .string T.name, .int .i64 T.len, .int .i64 T.speed, .int .i64 T.accel, .int .i64 T.service, .int .i64 T.emergency, .int .i64 T.delay, .int .i64 T.cons, .int .i64 T.rate]) := by rw [hw]; exact (((CellsAt.new (w := w) (cs := #[.int .i64 T.id, .string T.name, .int .i64 T.len, .int .i64 T.speed, .int .i64 T.accel, .int .i64 T.service, .int .i64 T.emergency, .int .i64 T.delay, .int .i64 T.cons, .int .i64 T.rate]) (t := 23) rfl).alloc _).alloc _).alloc _
  have HCA : Hid (CellsAt w1 (w.heap.size + 1) [.int .i64 sq, .int .i64 en, .slice A p.length cap, .slice LA ln lc]) := by rw [hw]; exact ((CellsAt.new (w := w.alloc (.cells #[.int .i64 T.id, .string T.name, .int .i64 T.len, .int .i64 T.speed, .int .i64 T.accel, .int .i64 T.service, .int .i64 T.emergency, .int .i64 T.delay, .int .i64 T.cons, .int .i64 T.rate] 23)) (cs := #[.int .i64 sq, .int .i64 en, .slice A p.length cap, .slice LA ln lc]) (t := 27) (b := w.heap.size + 1) (by simp)).alloc _).alloc _
  have HCR : Hid (CellsAt w1 (w.heap.size + 1 + 1) [.int .i64 X, .int .i64 V, .int .i64 Bk, .int .i64 Fr, .int .i64 Fa, .slice TA ts.length tc]) := by rw [hw]; exact (CellsAt.new (b := w.heap.size + 1 + 1) (by simp)).alloc _
  have HOE : Hid (Own w1 (w.heap.size + 1 + 1 + 1) [.int .i64 (X - Bk), .int .i64 (X + Fr), .int .i64 (V + Fa)]) := by rw [hw]; exact Own.new (b := w.heap.size + 1 + 1 + 1) (by simp)
  go_enter Try.func7, Try.ntmps7
  go_wp2_with fail
  rw [← hw]
  clear hw
  rw [← HEQ.out.1, ← HEQ.out.2.1, ← HEQ.out.2.2] at HOE ⊢
  refine (fit_any T E sq en A LA p cap ln lc _ hs).mono ?_
  rintro e w2 ⟨rfl, hb2⟩
  have HX2 := Lib.hid hb2
  clear hb2
  replace HE0 := Lib.hid (etr HE0.out HX2.out)
  replace HCT := Lib.hid (HCT.out.keep HX2.out)
  replace HCA := Lib.hid (HCA.out.keep HX2.out)
  replace HCR := Lib.hid (HCR.out.keep HX2.out)
  replace HOE := Lib.hid (HOE.out.keep HX2.out)
  have t0 := HCT.out.2 0 _ rfl
  have t1 := HCT.out.2 1 _ rfl
  have t2 := HCT.out.2 2 _ rfl
  have t3 := HCT.out.2 3 _ rfl
  have t4 := HCT.out.2 4 _ rfl
  have t5 := HCT.out.2 5 _ rfl
  have t6 := HCT.out.2 6 _ rfl
  have t7 := HCT.out.2 7 _ rfl
  have t8 := HCT.out.2 8 _ rfl
  have t9 := HCT.out.2 9 _ rfl
  have zt := HCT.out.1
  have a0 := HCA.out.2 0 _ rfl
  have a1 := HCA.out.2 1 _ rfl
  have a2 := HCA.out.2 2 _ rfl
  have a3 := HCA.out.2 3 _ rfl
  have za := HCA.out.1
  have r0 := HCR.out.2 0 _ rfl
  have r1 := HCR.out.2 1 _ rfl
  have r2 := HCR.out.2 2 _ rfl
  have r3 := HCR.out.2 3 _ rfl
  have r4 := HCR.out.2 4 _ rfl
  have r5 := HCR.out.2 5 _ rfl
  have zr := HCR.out.1
  have e0 := HOE.out.2.1 0 _ rfl
  have e1 := HOE.out.2.1 1 _ rfl
  have e2 := HOE.out.2.1 2 _ rfl
  have ze := HOE.out.1
  cases hf : fitsB T p E en
  · go_wp2_with (go_at_call 13; refine (to_after (alive_any _)).mono ?_; rintro e w' ⟨z, rfl, rfl⟩)
    go_ret
    exact ⟨rfl, etr HE0.out z.is⟩
  have HF := Lib.hid (fits_of hf)
  clear hf
  go_wp2_with fail
  refine (supsafe_any T E sq en A LA p cap ln lc _ (fits_len HF.out) HF.out.sup (HR.out.keep HE0.out)).mono ?_
  rintro e w3 ⟨rfl, hb3⟩
  have HX3 := Lib.hid hb3
  clear hb3
  replace HE0 := Lib.hid (etr HE0.out HX3.out)
  replace HCT := Lib.hid (HCT.out.keep HX3.out)
  replace HCA := Lib.hid (HCA.out.keep HX3.out)
  replace HCR := Lib.hid (HCR.out.keep HX3.out)
  replace HOE := Lib.hid (HOE.out.keep HX3.out)
  clear t0 t1 t2 t3 t4 t5 t6 t7 t8 t9 a0 a1 a2 a3 r0 r1 r2 r3 r4 r5 e0 e1 e2 zt za zr ze
  have t0 := HCT.out.2 0 _ rfl
  have t1 := HCT.out.2 1 _ rfl
  have t2 := HCT.out.2 2 _ rfl
  have t3 := HCT.out.2 3 _ rfl
  have t4 := HCT.out.2 4 _ rfl
  have t5 := HCT.out.2 5 _ rfl
  have t6 := HCT.out.2 6 _ rfl
  have t7 := HCT.out.2 7 _ rfl
  have t8 := HCT.out.2 8 _ rfl
  have t9 := HCT.out.2 9 _ rfl
  have zt := HCT.out.1
  have a0 := HCA.out.2 0 _ rfl
  have a1 := HCA.out.2 1 _ rfl
  have a2 := HCA.out.2 2 _ rfl
  have a3 := HCA.out.2 3 _ rfl
  have za := HCA.out.1
  have r0 := HCR.out.2 0 _ rfl
  have r1 := HCR.out.2 1 _ rfl
  have r2 := HCR.out.2 2 _ rfl
  have r3 := HCR.out.2 3 _ rfl
  have r4 := HCR.out.2 4 _ rfl
  have r5 := HCR.out.2 5 _ rfl
  have zr := HCR.out.1
  have e0 := HOE.out.2.1 0 _ rfl
  have e1 := HOE.out.2.1 1 _ rfl
  have e2 := HOE.out.2.1 2 _ rfl
  have ze := HOE.out.1
  cases hsf : safeB T p E en
  · go_wp2_with (go_at_call 13; refine (to_after (alive_any _)).mono ?_; rintro e w' ⟨z, rfl, rfl⟩)
    go_ret
    exact ⟨rfl, etr HE0.out z.is⟩
  obtain ⟨q1, q2⟩ := safeB_true.1 hsf
  have HD : Hid (0 ≤ T.delay ∧ T.delay ≤ 5) := by show _ ∧ _; have := HF.out.tr.delay; omega
  have HS0 : Hid (SupOk T p en X V 0 (weakV T p E.min en)) := sup_of (far := E.max) (w := E.speed) q1 (by have := HEQ.out; omega) (by omega) (by omega) (by omega) (by have := HEQ.out; omega) (by have := HEQ.out; omega) HD.out.1 q2
  clear q1 q2 hsf
  go_wp2_with fail
  refine wp_region_after (by kernel_rfl) (by kernel_rfl) ?_
  repeat (first | go_big_quiet_step (fail))
  refine wpQuiet_nil ?_
  rintro _ ⟨y, rfl⟩
  have HY := Lib.hid y.is
  obtain ⟨w4, hw4⟩ : ∃ w4, w4 = y.val := ⟨_, rfl⟩
  rw [← hw4] at HY ⊢
  clear hw4
  clear t0 t1 t2 t3 t4 t5 t6 t7 t8 t9 a0 a1 a2 a3 r0 r1 r2 r3 r4 r5 e0 e1 e2 zt za zr ze
  replace HE0 := Lib.hid (etr HE0.out HY.out)
  replace HCT := Lib.hid (HCT.out.keep HY.out)
  replace HCA := Lib.hid (HCA.out.keep HY.out)
  replace HCR := Lib.hid (HCR.out.keep HY.out)
  replace HOE := Lib.hid (HOE.out.keep HY.out)
  have t0 := HCT.out.2 0 _ rfl
  have t1 := HCT.out.2 1 _ rfl
  have t2 := HCT.out.2 2 _ rfl
  have t3 := HCT.out.2 3 _ rfl
  have t4 := HCT.out.2 4 _ rfl
  have t5 := HCT.out.2 5 _ rfl
  have t6 := HCT.out.2 6 _ rfl
  have t7 := HCT.out.2 7 _ rfl
  have t8 := HCT.out.2 8 _ rfl
  have t9 := HCT.out.2 9 _ rfl
  have zt := HCT.out.1
  have a0 := HCA.out.2 0 _ rfl
  have a1 := HCA.out.2 1 _ rfl
  have a2 := HCA.out.2 2 _ rfl
  have a3 := HCA.out.2 3 _ rfl
  have za := HCA.out.1
  have r0 := HCR.out.2 0 _ rfl
  have r1 := HCR.out.2 1 _ rfl
  have r2 := HCR.out.2 2 _ rfl
  have r3 := HCR.out.2 3 _ rfl
  have r4 := HCR.out.2 4 _ rfl
  have r5 := HCR.out.2 5 _ rfl
  have zr := HCR.out.1
  have e0 := HOE.out.2.1 0 _ rfl
  have e1 := HOE.out.2.1 1 _ rfl
  have e2 := HOE.out.2.1 2 _ rfl
  have ze := HOE.out.1
  go_wp2_with fail
  have HV : Hid (StopsInv w w4 T sq en A LA p cap ln lc X V 0 0 E 0) := ⟨HE0.out, HCT.out, HCA.out, HOE.out, ⟨_, HS0.out⟩, by omega, by have := HEQ.out; omega, by have := HEQ.out; omega, by have := HEQ.out; omega, HF.out.min, HF.out.max, by have := HF.out.spd; omega⟩
  clear t0 t1 t2 t3 t4 t5 t6 t7 t8 t9 a0 a1 a2 a3 r0 r1 r2 r3 r4 r5 e0 e1 e2 zt za zr ze
  have hle : ts.length ≤ 100 := by omega
  have hen : 0 ≤ en ∧ en ≤ 268435456 := by omega
  clear g0 g1 g2 g3 g4 g5 g6 g7 g8 g9 g10 g11 g12 HEQ HS0 HOE HCR HCA HCT hx1 hx2 hx3
  have HTR := Lib.hid HF.out.tr
  have HPL : Hid (p.length ≤ 1000000) := fits_len HF.out
  have HNL : Hid (0 ≤ T.len ∧ T.len ≤ 2147483648 ∧ 0 ≤ T.accel ∧ T.accel ≤ 2147483648) := ⟨HF.out.sup.len.1, HF.out.sup.len.2, HF.out.sup.acc.1, HF.out.sup.acc.2⟩
  clear HF
  go_loopg [8, 9, 10, 11, 118] ts.length (fun gg ax av ab ak ai wr => ∃ (j : Nat) (x v br b : Int) (E : Es), ax = .int .i64 x ∧ av = .int .i64 v ∧ ab = .int .i64 br ∧ ak = .int .i64 b ∧ ai = .int .i64 j ∧ j ≤ ts.length ∧ gg = ts.length - j ∧ Hid (StopsInv w wr T sq en A LA p cap ln lc x v br b E j))
  case atStart => exact ⟨0, X, V, 0, 0, E, rfl, rfl, rfl, rfl, rfl, by omega, rfl, HV.out⟩
  case round =>
    clear HV HE0
    obtain ⟨j, x, v, br, b, F, rfl, rfl, rfl, rfl, rfl, hj, hg, H⟩ := hrel
    have HG := Lib.hid hg
    clear hg
    by_cases hlt : j < ts.length
    · obtain ⟨bt, off, u, rfl, hu, hbs, c0, c1, c2⟩ := rd_tn HT.out H.out.ext hlt
      have HU := Lib.hid (HI.out j u hu)
      clear hu
      obtain ⟨D, HSD⟩ := H.out.sup
      have hv0 := HSD.v0
      have hx0 := HSD.x0
      have hj100 : j < 100 := by omega
      have SB : Hid (SupB T F en) := ⟨by have := H.out.m1; omega, by have := H.out.m2; omega, by have := H.out.h3; have := H.out.m3; omega, by omega, ⟨HNL.out.2.2.1, HNL.out.2.2.2⟩, ⟨HNL.out.1, HNL.out.2.1⟩⟩
      obtain ⟨v', b', D', HS', hb', HM⟩ := move_ok T A p cap F en br x v b D u HTR.out HPL.out HU.out HSD hen.2 (by have := H.out.bj; omega) H.out.h1 H.out.h2 H.out.h3
      have hle' := HS'.le
      have hv0' := HS'.v0
      have hv1' := HS'.v1
      have hxw := IntWalk.i64_in (x + v') (by omega)
      have hxd : decide (en < x + v') = false := decide_eq_false (by omega)
      have HS2 := Lib.hid HS'
      have HC : Hid ((0 ≤ T.cons ∧ T.cons ≤ 500) ∧ (0 ≤ T.rate ∧ T.rate ≤ 100)) := ⟨HTR.out.cons, HTR.out.rate⟩
      obtain ⟨mm, hmm⟩ : ∃ mm, mm = measV T.cons T.rate v' u.slip := ⟨_, rfl⟩
      have HMC : Hid (∀ xx, Calls Try.prog 19 #[.agg #[.int .i64 T.id, .string T.name, .int .i64 T.len, .int .i64 T.speed, .int .i64 T.accel, .int .i64 T.service, .int .i64 T.emergency, .int .i64 T.delay, .int .i64 T.cons, .int .i64 T.rate], .int .i64 v', .int .i64 u.slip] xx fun e w' => e = .returned (.int .i64 mm) ∧ Below xx.heap.size xx w') := fun xx => by rw [hmm]; exact rmeas_any T v' u.slip xx HC.out.1 HC.out.2
      obtain ⟨G, hG⟩ : ∃ G, G = addV T.cons T.rate F mm := ⟨_, rfl⟩
      have HAC : Hid (∀ xx, Calls Try.prog 18 #[.agg #[.int .i64 T.id, .string T.name, .int .i64 T.len, .int .i64 T.speed, .int .i64 T.accel, .int .i64 T.service, .int .i64 T.emergency, .int .i64 T.delay, .int .i64 T.cons, .int .i64 T.rate], .agg #[.int .i64 F.min, .int .i64 F.max, .int .i64 F.speed], .int .i64 mm] xx fun e w' => e = .returned (.agg #[.int .i64 G.min, .int .i64 G.max, .int .i64 G.speed]) ∧ Below xx.heap.size xx w') := fun xx => by rw [hG]; exact radd_any T F mm xx HC.out.1 HC.out.2 H.out.m1 H.out.m2
      have CS := contains_step (E := F) (x := x) (d := v') u.slip HC.out.1 HC.out.2 (by omega) (by omega) (by omega) (by omega) H.out.h1 H.out.h2 H.out.m1 H.out.m2
      rw [← hmm, ← hG] at CS
      have HCS : Hid (G.min ≤ x + v' ∧ x + v' ≤ G.max ∧ v' ≤ G.speed ∧ (-1073741824 ≤ G.min ∧ G.min ≤ 1073741824) ∧ (-1073741824 ≤ G.max ∧ G.max ≤ 1073741824)) := CS
      have HGS : Hid (G.speed ≤ 2147483648) := by show _ ≤ _; rw [hG]; exact addV_speed _ _ _ _ HC.out.1 HC.out.2
      have HHB : Hid (holdB G (x + v') v' = true) := by
        show _ = _
        have := HCS.out
        unfold holdB
        simp only [Bool.and_eq_true, decide_eq_true_eq]
        omega
      clear hmm hG CS HS' HSD hle'
      go_upto_region 8 with (fail)
      obtain ⟨w5, hw5⟩ : ∃ w5, w5 = wr.alloc (.cells #[.int .i64 u.push, .int .i64 u.more, .int .i64 u.slip] 44) := ⟨_, rfl⟩
      have hq : Ext wr w5 := by rw [hw5]; exact eal (Ext.refl _) _
      have HTU : Hid (CellsAt w5 wr.heap.size [.int .i64 u.push, .int .i64 u.more, .int .i64 u.slip]) := by rw [hw5]; exact CellsAt.new rfl
      rw [← hw5]
      clear hw5
      have H5 := Lib.hid (H.out.keep hq)
      clear hq c0 c1 c2 hbs
      have t0 := H5.out.t.2 0 _ rfl
      have t1 := H5.out.t.2 1 _ rfl
      have t2 := H5.out.t.2 2 _ rfl
      have t3 := H5.out.t.2 3 _ rfl
      have t4 := H5.out.t.2 4 _ rfl
      have t5 := H5.out.t.2 5 _ rfl
      have t6 := H5.out.t.2 6 _ rfl
      have t7 := H5.out.t.2 7 _ rfl
      have t8 := H5.out.t.2 8 _ rfl
      have t9 := H5.out.t.2 9 _ rfl
      have zt := H5.out.t.1
      have a0 := H5.out.a.2 0 _ rfl
      have a1 := H5.out.a.2 1 _ rfl
      have a2 := H5.out.a.2 2 _ rfl
      have a3 := H5.out.a.2 3 _ rfl
      have za := H5.out.a.1
      have e0 := H5.out.e.2.1 0 _ rfl
      have e1 := H5.out.e.2.1 1 _ rfl
      have e2 := H5.out.e.2.1 2 _ rfl
      have ze := H5.out.e.1
      have u0 := HTU.out.2 0 _ rfl
      have u1 := HTU.out.2 1 _ rfl
      have u2 := HTU.out.2 2 _ rfl
      have zu := HTU.out.1
      go_wp2_with fail
      refine (sdec_any T F sq en A LA p cap ln lc br _ HPL.out SB.out (HR.out.keep H5.out.ext)).mono ?_
      rintro e w6 ⟨rfl, hb6⟩
      have H6 := Lib.hid (H5.out.keep hb6)
      have HTU6 := Lib.hid (HTU.out.keep hb6)
      clear hb6
      clear t0 t1 t2 t3 t4 t5 t6 t7 t8 t9 a0 a1 a2 a3 e0 e1 e2 u0 u1 u2 zt za ze zu
      have t0 := H6.out.t.2 0 _ rfl
      have t1 := H6.out.t.2 1 _ rfl
      have t2 := H6.out.t.2 2 _ rfl
      have t3 := H6.out.t.2 3 _ rfl
      have t4 := H6.out.t.2 4 _ rfl
      have t5 := H6.out.t.2 5 _ rfl
      have t6 := H6.out.t.2 6 _ rfl
      have t7 := H6.out.t.2 7 _ rfl
      have t8 := H6.out.t.2 8 _ rfl
      have t9 := H6.out.t.2 9 _ rfl
      have zt := H6.out.t.1
      have a0 := H6.out.a.2 0 _ rfl
      have a1 := H6.out.a.2 1 _ rfl
      have a2 := H6.out.a.2 2 _ rfl
      have a3 := H6.out.a.2 3 _ rfl
      have za := H6.out.a.1
      have e0 := H6.out.e.2.1 0 _ rfl
      have e1 := H6.out.e.2.1 1 _ rfl
      have e2 := H6.out.e.2.1 2 _ rfl
      have ze := H6.out.e.1
      have u0 := HTU6.out.2 0 _ rfl
      have u1 := HTU6.out.2 1 _ rfl
      have u2 := HTU6.out.2 2 _ rfl
      have zu := HTU6.out.1
      go_wp2_with fail
      refine (HM.out _ (HR.out.keep H6.out.ext)).mono ?_
      rintro e w7 ⟨rfl, hb7⟩
      have H7 := Lib.hid (H6.out.keep hb7)
      have HTU7 := Lib.hid (HTU6.out.keep hb7)
      clear hb7
      clear t0 t1 t2 t3 t4 t5 t6 t7 t8 t9 a0 a1 a2 a3 e0 e1 e2 u0 u1 u2 zt za ze zu
      have t0 := H7.out.t.2 0 _ rfl
      have t1 := H7.out.t.2 1 _ rfl
      have t2 := H7.out.t.2 2 _ rfl
      have t3 := H7.out.t.2 3 _ rfl
      have t4 := H7.out.t.2 4 _ rfl
      have t5 := H7.out.t.2 5 _ rfl
      have t6 := H7.out.t.2 6 _ rfl
      have t7 := H7.out.t.2 7 _ rfl
      have t8 := H7.out.t.2 8 _ rfl
      have t9 := H7.out.t.2 9 _ rfl
      have zt := H7.out.t.1
      have a0 := H7.out.a.2 0 _ rfl
      have a1 := H7.out.a.2 1 _ rfl
      have a2 := H7.out.a.2 2 _ rfl
      have a3 := H7.out.a.2 3 _ rfl
      have za := H7.out.a.1
      have e0 := H7.out.e.2.1 0 _ rfl
      have e1 := H7.out.e.2.1 1 _ rfl
      have e2 := H7.out.e.2.1 2 _ rfl
      have ze := H7.out.e.1
      have u0 := HTU7.out.2 0 _ rfl
      have u1 := HTU7.out.2 1 _ rfl
      have u2 := HTU7.out.2 2 _ rfl
      have zu := HTU7.out.1
      go_upto_region 11 with (fail)
      refine wp_tail_after 8 (by kernel_rfl) (by kernel_rfl) ?_
      simp only [List.take_succ_cons, List.take_zero, List.drop_succ_cons, List.drop_zero]
      repeat (first | go_big_quiet_step ((first
        | (go_at_call 19; exact after_call _ (HMC.out _))
        | (go_at_call 18; exact after_call _ (HAC.out _)))))
      refine wpQuiet_nil ?_
      rintro _ ⟨y8, rfl⟩
      have H8 := Lib.hid (H7.out.keep y8.is)
      obtain ⟨w8, hw8⟩ : ∃ w8, w8 = y8.val := ⟨_, rfl⟩
      rw [← hw8] at H8 ⊢
      clear hw8
      clear t0 t1 t2 t3 t4 t5 t6 t7 t8 t9 a0 a1 a2 a3 e0 e1 e2 u0 u1 u2 zt za ze zu
      have z8 := H8.out.e.1
      have f8 := H8.out.e.2.2 0
      have f81 := H8.out.e.2.2 1
      have f82 := H8.out.e.2.2 2
      have e0 := H8.out.e.2.1 0 _ rfl
      have e1 := H8.out.e.2.1 1 _ rfl
      have e2 := H8.out.e.2.1 2 _ rfl
      obtain ⟨w9, hw9, hown9, honly9⟩ := set3 (.int .i64 G.min) (.int .i64 G.max) (.int .i64 G.speed) H8.out.e rfl
      go_upto_region 12 with (fail)
      rw [← hw9]
      clear hw9 z8 f8 f81 f82 e0 e1 e2
      have HI9 : Hid (StopsInv w w9 T sq en A LA p cap ln lc (x + v') v' (decdV T p F en br) b' G (j + 1)) :=
        ⟨eonly H8.out.ext honly9 (by omega), H8.out.t.only honly9 (by omega), H8.out.a.only honly9 (by omega), hown9, ⟨D', HS2.out⟩, by have := H.out.bj; omega, HCS.out.1, HCS.out.2.1, HCS.out.2.2.1, HCS.out.2.2.2.1, HCS.out.2.2.2.2, HGS.out⟩
      have a0 := HI9.out.a.2 0 _ rfl
      have a1 := HI9.out.a.2 1 _ rfl
      have za := HI9.out.a.1
      have e0 := HI9.out.e.2.1 0 _ rfl
      have e1 := HI9.out.e.2.1 1 _ rfl
      have e2 := HI9.out.e.2.1 2 _ rfl
      have ze := HI9.out.e.1
      go_wp2_with (go_at_call 20; refine (to_after (rhold_any G (x + v') v' _)).mono ?_; rintro e w' ⟨y9, rfl, rfl⟩; rw [HHB.out])
      go_roundg (ts.length - (j + 1))
      case measure => have := HG.out; omega
      case rel => exact ⟨j + 1, x + v', v', decdV T p F en br, b', G, rfl, rfl, rfl, rfl, by go_num, by omega, rfl, HI9.out.keep y9.is⟩
    · go_wp2_with (go_at_call 13; refine (to_after (alive_any _)).mono ?_; rintro e w' ⟨z, rfl, rfl⟩)
      go_ret
      exact ⟨rfl, etr H.out.ext z.is⟩
end Go.Proofs.Ythkknagicdanfaa
