/- Walks of package supervise and of its reference: Decide. -/
import Derived.Test.YtbgmknkmfhpgeaaDoorWSup2
set_option linter.unusedVariables false
set_option linter.unusedSimpArgs false
namespace Go.Proofs.YtbgmknkmfhpgeaaDoor
open Go.ChangeShapes Go.WideShapes Go.ChangeAt Go.RowKit
open Sg

theorem SupB.near {T : Tr} {E : Es} {en : Int} (h : SupB T E en) : NearB T E en := ⟨by have := h.min; omega, by have := h.max; omega, by have := h.en; omega, by have := h.len; omega⟩
theorem decd_old {T : Tr} {p : List Sgm} {e : Es} {en old : Int} (h1 : old = 2) (h2 : 0 < e.speed) : decdV T p e en old = 2 := by unfold decdV; rw [if_pos (.inr ⟨h1, h2⟩)]
theorem decd_rest {T : Tr} {p : List Sgm} {e : Es} {en old : Int} (ha : aheadB T p e en = true) (h : ¬ (old = 2 ∧ 0 < e.speed)) : decdV T p e en old = if permV T p e en < e.speed then 1 else 0 := by
  unfold decdV
  refine if_neg ?_
  rintro (h' | h')
  · rw [ha] at h'; cases h'
  · exact h h'

set_option maxHeartbeats 8000000 in
theorem sdec_any (T : Tr) (E : Es) (sq en : Int) (A LA : Option Addr) (p : List Sgm) (cap ln lc : Nat) (old : Int) (w : World) (hm : p.length ≤ 1000000) (hB : SupB T E en) (hr : Rd w A 4 Sgc p) :
    Calls Tryd.prog 39 #[.agg #[.int .i64 T.id, .string T.name, .int .i64 T.len, .int .i64 T.speed, .int .i64 T.accel, .int .i64 T.service, .int .i64 T.emergency, .int .i64 T.delay, .int .i64 T.cons, .int .i64 T.rate], .agg #[.int .i64 sq, .int .i64 en, .slice A p.length cap, .slice LA ln lc], .agg #[.int .i64 E.min, .int .i64 E.max, .int .i64 E.speed], .int .i64 old] w fun e w' => e = .returned (.int .i64 (decdV T p E en old)) ∧ Below w.heap.size w w' := by
  have HR := Lib.hid hr
  clear hr
  obtain ⟨pv, hpv⟩ : ∃ pv, pv = permV T p E en := ⟨_, rfl⟩
  have HPC : Hid (∀ x, Rd x A 4 Sgc p → Calls Tryd.prog 76 #[.agg #[.int .i64 T.id, .string T.name, .int .i64 T.len, .int .i64 T.speed, .int .i64 T.accel, .int .i64 T.service, .int .i64 T.emergency, .int .i64 T.delay, .int .i64 T.cons, .int .i64 T.rate], .agg #[.int .i64 sq, .int .i64 en, .slice A p.length cap, .slice LA ln lc], .agg #[.int .i64 E.min, .int .i64 E.max, .int .i64 E.speed]] x fun e w' => e = .returned (.int .i64 pv) ∧ Below x.heap.size x w') := fun x hx => by rw [hpv]; exact perm_any T E sq en A LA p cap ln lc x hm hB.near hx
  obtain ⟨w1, hw⟩ : ∃ w1, w1 = ((w.alloc (.cells #[.int .i64 T.id, .string T.name, .int .i64 T.len, .int .i64 T.speed, .int .i64 T.accel, .int .i64 T.service, .int .i64 T.emergency, .int .i64 T.delay, .int .i64 T.cons, .int .i64 T.rate] 23)).alloc (.cells #[.int .i64 sq, .int .i64 en, .slice A p.length cap, .slice LA ln lc] 29)).alloc (.cells #[.int .i64 E.min, .int .i64 E.max, .int .i64 E.speed] 25) := ⟨_, rfl⟩
  have HE0 : Hid (Ext w w1) := by rw [hw]; exact eal (eal (eal (Ext.refl w) (.cells #[.int .i64 T.id, .string T.name, .int .i64 T.len, .int .i64 T.speed, .int .i64 T.accel, .int .i64 T.service, .int .i64 T.emergency, .int .i64 T.delay, .int .i64 T.cons, .int .i64 T.rate] 23)) (.cells #[.int .i64 sq, .int .i64 en, .slice A p.length cap, .slice LA ln lc] 29)) (.cells #[.int .i64 E.min, .int .i64 E.max, .int .i64 E.speed] 25)
  have HCT : Hid (CellsAt w1 w.heap.size [.int .i64 T.id, .string T.name, .int .i64 T.len, .int .i64 T.speed, .int .i64 T.accel, .int .i64 T.service, .int .i64 T.emergency, .int .i64 T.delay, .int .i64 T.cons, .int .i64 T.rate]) := by rw [hw]; exact ((CellsAt.new (w := w) (cs := #[.int .i64 T.id, .string T.name, .int .i64 T.len, .int .i64 T.speed, .int .i64 T.accel, .int .i64 T.service, .int .i64 T.emergency, .int .i64 T.delay, .int .i64 T.cons, .int .i64 T.rate]) (t := 23) rfl).alloc _).alloc _
  have HCA : Hid (CellsAt w1 (w.heap.size + 1) [.int .i64 sq, .int .i64 en, .slice A p.length cap, .slice LA ln lc]) := by rw [hw]; exact (CellsAt.new (w := w.alloc (.cells #[.int .i64 T.id, .string T.name, .int .i64 T.len, .int .i64 T.speed, .int .i64 T.accel, .int .i64 T.service, .int .i64 T.emergency, .int .i64 T.delay, .int .i64 T.cons, .int .i64 T.rate] 23)) (cs := #[.int .i64 sq, .int .i64 en, .slice A p.length cap, .slice LA ln lc]) (t := 29) (by simp)).alloc _
  have HCE : Hid (CellsAt w1 (w.heap.size + 1 + 1) [.int .i64 E.min, .int .i64 E.max, .int .i64 E.speed]) := by rw [hw]; exact CellsAt.new (by simp)
  cases hb : aheadB T p E en
  · have HE : Hid (decdV T p E en old = 2) := decd_two hb
    have HAC : Hid (∀ x, Ext w1 x → Calls Tryd.prog 75 #[.agg #[.int .i64 T.id, .string T.name, .int .i64 T.len, .int .i64 T.speed, .int .i64 T.accel, .int .i64 T.service, .int .i64 T.emergency, .int .i64 T.delay, .int .i64 T.cons, .int .i64 T.rate], .agg #[.int .i64 sq, .int .i64 en, .slice A p.length cap, .slice LA ln lc], .agg #[.int .i64 E.min, .int .i64 E.max, .int .i64 E.speed]] x fun e w' => e = .returned (.bool false) ∧ Below x.heap.size x w') := fun x hx => by rw [← hb]; exact supahead_any T E sq en A LA p cap ln lc x hm hB (HR.out.keep (etr HE0.out hx))
    clear hb hpv
    · go_enter Tryd.func39, Tryd.ntmps39
      go_upto_region 1 with (fail)
      rw [← hw]
      clear hw
      have t0 := HCT.out.2 0 _ rfl
      have t1 := HCT.out.2 1 _ rfl
      have t2 := HCT.out.2 2 _ rfl
      have t3 := HCT.out.2 3 _ rfl
      have t4 := HCT.out.2 4 _ rfl
      have t5 := HCT.out.2 5 _ rfl
      have t6 := HCT.out.2 6 _ rfl
      have t7 := HCT.out.2 7 _ rfl
      have t8 := HCT.out.2 8 _ rfl
      have t9 := HCT.out.2 9 _ rfl
      have zt := HCT.out.1
      have a0 := HCA.out.2 0 _ rfl
      have a1 := HCA.out.2 1 _ rfl
      have a2 := HCA.out.2 2 _ rfl
      have a3 := HCA.out.2 3 _ rfl
      have za := HCA.out.1
      have e0 := HCE.out.2 0 _ rfl
      have e1 := HCE.out.2 1 _ rfl
      have e2 := HCE.out.2 2 _ rfl
      have ze := HCE.out.1
      go_wp2_with fail
      refine (HAC.out _ (Ext.refl _)).mono ?_
      rintro e w2 ⟨rfl, hb2⟩
      have HX2 := Lib.hid (etr HE0.out hb2)
      have HT2 := Lib.hid (HCT.out.keep hb2)
      have HA2 := Lib.hid (HCA.out.keep hb2)
      have HE2 := Lib.hid (HCE.out.keep hb2)
      clear hb2
      clear t0 t1 t2 t3 t4 t5 t6 t7 t8 t9 a0 a1 a2 a3 e0 e1 e2 zt za ze
      have t0 := HT2.out.2 0 _ rfl
      have t1 := HT2.out.2 1 _ rfl
      have t2 := HT2.out.2 2 _ rfl
      have t3 := HT2.out.2 3 _ rfl
      have t4 := HT2.out.2 4 _ rfl
      have t5 := HT2.out.2 5 _ rfl
      have t6 := HT2.out.2 6 _ rfl
      have t7 := HT2.out.2 7 _ rfl
      have t8 := HT2.out.2 8 _ rfl
      have t9 := HT2.out.2 9 _ rfl
      have zt := HT2.out.1
      have a0 := HA2.out.2 0 _ rfl
      have a1 := HA2.out.2 1 _ rfl
      have a2 := HA2.out.2 2 _ rfl
      have a3 := HA2.out.2 3 _ rfl
      have za := HA2.out.1
      have e0 := HE2.out.2 0 _ rfl
      have e1 := HE2.out.2 1 _ rfl
      have e2 := HE2.out.2 2 _ rfl
      have ze := HE2.out.1
      go_wp2
      go_ret
      exact ⟨ret_int HE.out.symm, HX2.out⟩
  · have HAC : Hid (∀ x, Ext w1 x → Calls Tryd.prog 75 #[.agg #[.int .i64 T.id, .string T.name, .int .i64 T.len, .int .i64 T.speed, .int .i64 T.accel, .int .i64 T.service, .int .i64 T.emergency, .int .i64 T.delay, .int .i64 T.cons, .int .i64 T.rate], .agg #[.int .i64 sq, .int .i64 en, .slice A p.length cap, .slice LA ln lc], .agg #[.int .i64 E.min, .int .i64 E.max, .int .i64 E.speed]] x fun e w' => e = .returned (.bool true) ∧ Below x.heap.size x w') := fun x hx => by rw [← hb]; exact supahead_any T E sq en A LA p cap ln lc x hm hB (HR.out.keep (etr HE0.out hx))
    by_cases hq : old = 2 ∧ 0 < E.speed
    · have HE : Hid (decdV T p E en old = 2) := decd_old hq.1 hq.2
      obtain ⟨rfl, q2⟩ := hq
      have q2d : decide (0 < E.speed) = true := decide_eq_true q2
      clear hb hpv
      go_enter Tryd.func39, Tryd.ntmps39
      go_upto_region 1 with (fail)
      rw [← hw]
      clear hw
      have t0 := HCT.out.2 0 _ rfl
      have t1 := HCT.out.2 1 _ rfl
      have t2 := HCT.out.2 2 _ rfl
      have t3 := HCT.out.2 3 _ rfl
      have t4 := HCT.out.2 4 _ rfl
      have t5 := HCT.out.2 5 _ rfl
      have t6 := HCT.out.2 6 _ rfl
      have t7 := HCT.out.2 7 _ rfl
      have t8 := HCT.out.2 8 _ rfl
      have t9 := HCT.out.2 9 _ rfl
      have zt := HCT.out.1
      have a0 := HCA.out.2 0 _ rfl
      have a1 := HCA.out.2 1 _ rfl
      have a2 := HCA.out.2 2 _ rfl
      have a3 := HCA.out.2 3 _ rfl
      have za := HCA.out.1
      have e0 := HCE.out.2 0 _ rfl
      have e1 := HCE.out.2 1 _ rfl
      have e2 := HCE.out.2 2 _ rfl
      have ze := HCE.out.1
      go_wp2_with fail
      refine (HAC.out _ (Ext.refl _)).mono ?_
      rintro e w2 ⟨rfl, hb2⟩
      have HX2 := Lib.hid (etr HE0.out hb2)
      have HT2 := Lib.hid (HCT.out.keep hb2)
      have HA2 := Lib.hid (HCA.out.keep hb2)
      have HE2 := Lib.hid (HCE.out.keep hb2)
      clear hb2
      clear t0 t1 t2 t3 t4 t5 t6 t7 t8 t9 a0 a1 a2 a3 e0 e1 e2 zt za ze
      have t0 := HT2.out.2 0 _ rfl
      have t1 := HT2.out.2 1 _ rfl
      have t2 := HT2.out.2 2 _ rfl
      have t3 := HT2.out.2 3 _ rfl
      have t4 := HT2.out.2 4 _ rfl
      have t5 := HT2.out.2 5 _ rfl
      have t6 := HT2.out.2 6 _ rfl
      have t7 := HT2.out.2 7 _ rfl
      have t8 := HT2.out.2 8 _ rfl
      have t9 := HT2.out.2 9 _ rfl
      have zt := HT2.out.1
      have a0 := HA2.out.2 0 _ rfl
      have a1 := HA2.out.2 1 _ rfl
      have a2 := HA2.out.2 2 _ rfl
      have a3 := HA2.out.2 3 _ rfl
      have za := HA2.out.1
      have e0 := HE2.out.2 0 _ rfl
      have e1 := HE2.out.2 1 _ rfl
      have e2 := HE2.out.2 2 _ rfl
      have ze := HE2.out.1
      go_wp2
      go_ret
      exact ⟨ret_int HE.out.symm, HX2.out⟩
    · have HE : Hid (decdV T p E en old = if pv < E.speed then 1 else 0) := by show _ = _; rw [hpv]; exact decd_rest hb hq
      have key : (old == 2) = false ∨ ((old == 2) = true ∧ decide (0 < E.speed) = false) := by
        by_cases h2 : old = 2
        · exact .inr ⟨by simpa using h2, decide_eq_false (fun h => hq ⟨h2, h⟩)⟩
        · exact .inl (by simpa using h2)
      clear hb hpv hq
      rcases key with q1 | ⟨q1, q2⟩
      all_goals
        cases q3 : decide (pv < E.speed)
        all_goals
          go_enter Tryd.func39, Tryd.ntmps39
          go_upto_region 1 with (fail)
          rw [← hw]
          clear hw
          have t0 := HCT.out.2 0 _ rfl
          have t1 := HCT.out.2 1 _ rfl
          have t2 := HCT.out.2 2 _ rfl
          have t3 := HCT.out.2 3 _ rfl
          have t4 := HCT.out.2 4 _ rfl
          have t5 := HCT.out.2 5 _ rfl
          have t6 := HCT.out.2 6 _ rfl
          have t7 := HCT.out.2 7 _ rfl
          have t8 := HCT.out.2 8 _ rfl
          have t9 := HCT.out.2 9 _ rfl
          have zt := HCT.out.1
          have a0 := HCA.out.2 0 _ rfl
          have a1 := HCA.out.2 1 _ rfl
          have a2 := HCA.out.2 2 _ rfl
          have a3 := HCA.out.2 3 _ rfl
          have za := HCA.out.1
          have e0 := HCE.out.2 0 _ rfl
          have e1 := HCE.out.2 1 _ rfl
          have e2 := HCE.out.2 2 _ rfl
          have ze := HCE.out.1
          go_wp2_with fail
          refine (HAC.out _ (Ext.refl _)).mono ?_
          rintro e w2 ⟨rfl, hb2⟩
          have HX2 := Lib.hid (etr HE0.out hb2)
          have HT2 := Lib.hid (HCT.out.keep hb2)
          have HA2 := Lib.hid (HCA.out.keep hb2)
          have HE2 := Lib.hid (HCE.out.keep hb2)
          clear hb2
          clear t0 t1 t2 t3 t4 t5 t6 t7 t8 t9 a0 a1 a2 a3 e0 e1 e2 zt za ze
          have t0 := HT2.out.2 0 _ rfl
          have t1 := HT2.out.2 1 _ rfl
          have t2 := HT2.out.2 2 _ rfl
          have t3 := HT2.out.2 3 _ rfl
          have t4 := HT2.out.2 4 _ rfl
          have t5 := HT2.out.2 5 _ rfl
          have t6 := HT2.out.2 6 _ rfl
          have t7 := HT2.out.2 7 _ rfl
          have t8 := HT2.out.2 8 _ rfl
          have t9 := HT2.out.2 9 _ rfl
          have zt := HT2.out.1
          have a0 := HA2.out.2 0 _ rfl
          have a1 := HA2.out.2 1 _ rfl
          have a2 := HA2.out.2 2 _ rfl
          have a3 := HA2.out.2 3 _ rfl
          have za := HA2.out.1
          have e0 := HE2.out.2 0 _ rfl
          have e1 := HE2.out.2 1 _ rfl
          have e2 := HE2.out.2 2 _ rfl
          have ze := HE2.out.1
          go_wp2_with fail
          refine wp_region_after (by kernel_rfl) (by kernel_rfl) ?_
          repeat (first | go_big_quiet_step ((go_at_call 76; exact after_call _ (HPC.out _ (HR.out.keep (etr HX2.out (After.is _)))))))
          refine wpQuiet_nil ?_
          rintro _ ⟨y, rfl⟩
          go_wp2
          go_ret
          exact ⟨ret_int (by rw [HE.out]; simp only [decide_eq_true_eq, decide_eq_false_iff_not] at q3; simp [q3]), etr HX2.out y.is⟩

set_option maxHeartbeats 8000000 in
theorem rdec_any (T : Tr) (E : Es) (sq en : Int) (A LA : Option Addr) (p : List Sgm) (cap ln lc : Nat) (old : Int) (w : World) (hm : p.length ≤ 1000000) (hB : SupB T E en) (hr : Rd w A 4 Sgc p) :
    Calls Tryd.prog 42 #[.agg #[.int .i64 T.id, .string T.name, .int .i64 T.len, .int .i64 T.speed, .int .i64 T.accel, .int .i64 T.service, .int .i64 T.emergency, .int .i64 T.delay, .int .i64 T.cons, .int .i64 T.rate], .agg #[.int .i64 sq, .int .i64 en, .slice A p.length cap, .slice LA ln lc], .agg #[.int .i64 E.min, .int .i64 E.max, .int .i64 E.speed], .int .i64 old] w fun e w' => e = .returned (.int .i64 (decdV T p E en old)) ∧ Below w.heap.size w w' := by
  have HR := Lib.hid hr
  clear hr
  obtain ⟨pv, hpv⟩ : ∃ pv, pv = permV T p E en := ⟨_, rfl⟩
  have HPC : Hid (∀ x, Rd x A 4 Sgc p → Calls Tryd.prog 78 #[.agg #[.int .i64 T.id, .string T.name, .int .i64 T.len, .int .i64 T.speed, .int .i64 T.accel, .int .i64 T.service, .int .i64 T.emergency, .int .i64 T.delay, .int .i64 T.cons, .int .i64 T.rate], .agg #[.int .i64 sq, .int .i64 en, .slice A p.length cap, .slice LA ln lc], .agg #[.int .i64 E.min, .int .i64 E.max, .int .i64 E.speed]] x fun e w' => e = .returned (.int .i64 pv) ∧ Below x.heap.size x w') := fun x hx => by rw [hpv]; exact rperm_any T E sq en A LA p cap ln lc x hm hB.near hx
  obtain ⟨w1, hw⟩ : ∃ w1, w1 = ((w.alloc (.cells #[.int .i64 T.id, .string T.name, .int .i64 T.len, .int .i64 T.speed, .int .i64 T.accel, .int .i64 T.service, .int .i64 T.emergency, .int .i64 T.delay, .int .i64 T.cons, .int .i64 T.rate] 23)).alloc (.cells #[.int .i64 sq, .int .i64 en, .slice A p.length cap, .slice LA ln lc] 29)).alloc (.cells #[.int .i64 E.min, .int .i64 E.max, .int .i64 E.speed] 25) := ⟨_, rfl⟩
  have HE0 : Hid (Ext w w1) := by rw [hw]; exact eal (eal (eal (Ext.refl w) (.cells #[.int .i64 T.id, .string T.name, .int .i64 T.len, .int .i64 T.speed, .int .i64 T.accel, .int .i64 T.service, .int .i64 T.emergency, .int .i64 T.delay, .int .i64 T.cons, .int .i64 T.rate] 23)) (.cells #[.int .i64 sq, .int .i64 en, .slice A p.length cap, .slice LA ln lc] 29)) (.cells #[.int .i64 E.min, .int .i64 E.max, .int .i64 E.speed] 25)
  have HCT : Hid (CellsAt w1 w.heap.size [.int .i64 T.id, .string T.name, .int .i64 T.len, .int .i64 T.speed, .int .i64 T.accel, .int .i64 T.service, .int .i64 T.emergency, .int .i64 T.delay, .int .i64 T.cons, .int .i64 T.rate]) := by rw [hw]; exact ((CellsAt.new (w := w) (cs := #[.int .i64 T.id, .string T.name, .int .i64 T.len, .int .i64 T.speed, .int .i64 T.accel, .int .i64 T.service, .int .i64 T.emergency, .int .i64 T.delay, .int .i64 T.cons, .int .i64 T.rate]) (t := 23) rfl).alloc _).alloc _
  have HCA : Hid (CellsAt w1 (w.heap.size + 1) [.int .i64 sq, .int .i64 en, .slice A p.length cap, .slice LA ln lc]) := by rw [hw]; exact (CellsAt.new (w := w.alloc (.cells #[.int .i64 T.id, .string T.name, .int .i64 T.len, .int .i64 T.speed, .int .i64 T.accel, .int .i64 T.service, .int .i64 T.emergency, .int .i64 T.delay, .int .i64 T.cons, .int .i64 T.rate] 23)) (cs := #[.int .i64 sq, .int .i64 en, .slice A p.length cap, .slice LA ln lc]) (t := 29) (by simp)).alloc _
  have HCE : Hid (CellsAt w1 (w.heap.size + 1 + 1) [.int .i64 E.min, .int .i64 E.max, .int .i64 E.speed]) := by rw [hw]; exact CellsAt.new (by simp)
  cases hb : aheadB T p E en
  · have HE : Hid (decdV T p E en old = 2) := decd_two hb
    have HAC : Hid (∀ x, Ext w1 x → Calls Tryd.prog 77 #[.agg #[.int .i64 T.id, .string T.name, .int .i64 T.len, .int .i64 T.speed, .int .i64 T.accel, .int .i64 T.service, .int .i64 T.emergency, .int .i64 T.delay, .int .i64 T.cons, .int .i64 T.rate], .agg #[.int .i64 sq, .int .i64 en, .slice A p.length cap, .slice LA ln lc], .agg #[.int .i64 E.min, .int .i64 E.max, .int .i64 E.speed]] x fun e w' => e = .returned (.bool false) ∧ Below x.heap.size x w') := fun x hx => by rw [← hb]; exact rahead_any T E sq en A LA p cap ln lc x hm hB (HR.out.keep (etr HE0.out hx))
    clear hb hpv
    · go_enter Tryd.func42, Tryd.ntmps42
      go_upto_region 1 with (fail)
      rw [← hw]
      clear hw
      have t0 := HCT.out.2 0 _ rfl
      have t1 := HCT.out.2 1 _ rfl
      have t2 := HCT.out.2 2 _ rfl
      have t3 := HCT.out.2 3 _ rfl
      have t4 := HCT.out.2 4 _ rfl
      have t5 := HCT.out.2 5 _ rfl
      have t6 := HCT.out.2 6 _ rfl
      have t7 := HCT.out.2 7 _ rfl
      have t8 := HCT.out.2 8 _ rfl
      have t9 := HCT.out.2 9 _ rfl
      have zt := HCT.out.1
      have a0 := HCA.out.2 0 _ rfl
      have a1 := HCA.out.2 1 _ rfl
      have a2 := HCA.out.2 2 _ rfl
      have a3 := HCA.out.2 3 _ rfl
      have za := HCA.out.1
      have e0 := HCE.out.2 0 _ rfl
      have e1 := HCE.out.2 1 _ rfl
      have e2 := HCE.out.2 2 _ rfl
      have ze := HCE.out.1
      go_wp2_with fail
      refine (HAC.out _ (Ext.refl _)).mono ?_
      rintro e w2 ⟨rfl, hb2⟩
      have HX2 := Lib.hid (etr HE0.out hb2)
      have HT2 := Lib.hid (HCT.out.keep hb2)
      have HA2 := Lib.hid (HCA.out.keep hb2)
      have HE2 := Lib.hid (HCE.out.keep hb2)
      clear hb2
      clear t0 t1 t2 t3 t4 t5 t6 t7 t8 t9 a0 a1 a2 a3 e0 e1 e2 zt za ze
      have t0 := HT2.out.2 0 _ rfl
      have t1 := HT2.out.2 1 _ rfl
      have t2 := HT2.out.2 2 _ rfl
      have t3 := HT2.out.2 3 _ rfl
      have t4 := HT2.out.2 4 _ rfl
      have t5 := HT2.out.2 5 _ rfl
      have t6 := HT2.out.2 6 _ rfl
      have t7 := HT2.out.2 7 _ rfl
      have t8 := HT2.out.2 8 _ rfl
      have t9 := HT2.out.2 9 _ rfl
      have zt := HT2.out.1
      have a0 := HA2.out.2 0 _ rfl
      have a1 := HA2.out.2 1 _ rfl
      have a2 := HA2.out.2 2 _ rfl
      have a3 := HA2.out.2 3 _ rfl
      have za := HA2.out.1
      have e0 := HE2.out.2 0 _ rfl
      have e1 := HE2.out.2 1 _ rfl
      have e2 := HE2.out.2 2 _ rfl
      have ze := HE2.out.1
      go_wp2
      go_ret
      exact ⟨ret_int HE.out.symm, HX2.out⟩
  · have HAC : Hid (∀ x, Ext w1 x → Calls Tryd.prog 77 #[.agg #[.int .i64 T.id, .string T.name, .int .i64 T.len, .int .i64 T.speed, .int .i64 T.accel, .int .i64 T.service, .int .i64 T.emergency, .int .i64 T.delay, .int .i64 T.cons, .int .i64 T.rate], .agg #[.int .i64 sq, .int .i64 en, .slice A p.length cap, .slice LA ln lc], .agg #[.int .i64 E.min, .int .i64 E.max, .int .i64 E.speed]] x fun e w' => e = .returned (.bool true) ∧ Below x.heap.size x w') := fun x hx => by rw [← hb]; exact rahead_any T E sq en A LA p cap ln lc x hm hB (HR.out.keep (etr HE0.out hx))
    by_cases hq : old = 2 ∧ 0 < E.speed
    · have HE : Hid (decdV T p E en old = 2) := decd_old hq.1 hq.2
      obtain ⟨rfl, q2⟩ := hq
      have q2d : decide (0 < E.speed) = true := decide_eq_true q2
      clear hb hpv
      go_enter Tryd.func42, Tryd.ntmps42
      go_upto_region 1 with (fail)
      rw [← hw]
      clear hw
      have t0 := HCT.out.2 0 _ rfl
      have t1 := HCT.out.2 1 _ rfl
      have t2 := HCT.out.2 2 _ rfl
      have t3 := HCT.out.2 3 _ rfl
      have t4 := HCT.out.2 4 _ rfl
      have t5 := HCT.out.2 5 _ rfl
      have t6 := HCT.out.2 6 _ rfl
      have t7 := HCT.out.2 7 _ rfl
      have t8 := HCT.out.2 8 _ rfl
      have t9 := HCT.out.2 9 _ rfl
      have zt := HCT.out.1
      have a0 := HCA.out.2 0 _ rfl
      have a1 := HCA.out.2 1 _ rfl
      have a2 := HCA.out.2 2 _ rfl
      have a3 := HCA.out.2 3 _ rfl
      have za := HCA.out.1
      have e0 := HCE.out.2 0 _ rfl
      have e1 := HCE.out.2 1 _ rfl
      have e2 := HCE.out.2 2 _ rfl
      have ze := HCE.out.1
      go_wp2_with fail
      refine (HAC.out _ (Ext.refl _)).mono ?_
      rintro e w2 ⟨rfl, hb2⟩
      have HX2 := Lib.hid (etr HE0.out hb2)
      have HT2 := Lib.hid (HCT.out.keep hb2)
      have HA2 := Lib.hid (HCA.out.keep hb2)
      have HE2 := Lib.hid (HCE.out.keep hb2)
      clear hb2
      clear t0 t1 t2 t3 t4 t5 t6 t7 t8 t9 a0 a1 a2 a3 e0 e1 e2 zt za ze
      have t0 := HT2.out.2 0 _ rfl
      have t1 := HT2.out.2 1 _ rfl
      have t2 := HT2.out.2 2 _ rfl
      have t3 := HT2.out.2 3 _ rfl
      have t4 := HT2.out.2 4 _ rfl
      have t5 := HT2.out.2 5 _ rfl
      have t6 := HT2.out.2 6 _ rfl
      have t7 := HT2.out.2 7 _ rfl
      have t8 := HT2.out.2 8 _ rfl
      have t9 := HT2.out.2 9 _ rfl
      have zt := HT2.out.1
      have a0 := HA2.out.2 0 _ rfl
      have a1 := HA2.out.2 1 _ rfl
      have a2 := HA2.out.2 2 _ rfl
      have a3 := HA2.out.2 3 _ rfl
      have za := HA2.out.1
      have e0 := HE2.out.2 0 _ rfl
      have e1 := HE2.out.2 1 _ rfl
      have e2 := HE2.out.2 2 _ rfl
      have ze := HE2.out.1
      go_wp2
      go_ret
      exact ⟨ret_int HE.out.symm, HX2.out⟩
    · have HE : Hid (decdV T p E en old = if pv < E.speed then 1 else 0) := by show _ = _; rw [hpv]; exact decd_rest hb hq
      have key : (old == 2) = false ∨ ((old == 2) = true ∧ decide (0 < E.speed) = false) := by
        by_cases h2 : old = 2
        · exact .inr ⟨by simpa using h2, decide_eq_false (fun h => hq ⟨h2, h⟩)⟩
        · exact .inl (by simpa using h2)
      clear hb hpv hq
      rcases key with q1 | ⟨q1, q2⟩
      all_goals
        cases q3 : decide (pv < E.speed)
        all_goals
          go_enter Tryd.func42, Tryd.ntmps42
          go_upto_region 1 with (fail)
          rw [← hw]
          clear hw
          have t0 := HCT.out.2 0 _ rfl
          have t1 := HCT.out.2 1 _ rfl
          have t2 := HCT.out.2 2 _ rfl
          have t3 := HCT.out.2 3 _ rfl
          have t4 := HCT.out.2 4 _ rfl
          have t5 := HCT.out.2 5 _ rfl
          have t6 := HCT.out.2 6 _ rfl
          have t7 := HCT.out.2 7 _ rfl
          have t8 := HCT.out.2 8 _ rfl
          have t9 := HCT.out.2 9 _ rfl
          have zt := HCT.out.1
          have a0 := HCA.out.2 0 _ rfl
          have a1 := HCA.out.2 1 _ rfl
          have a2 := HCA.out.2 2 _ rfl
          have a3 := HCA.out.2 3 _ rfl
          have za := HCA.out.1
          have e0 := HCE.out.2 0 _ rfl
          have e1 := HCE.out.2 1 _ rfl
          have e2 := HCE.out.2 2 _ rfl
          have ze := HCE.out.1
          go_wp2_with fail
          refine (HAC.out _ (Ext.refl _)).mono ?_
          rintro e w2 ⟨rfl, hb2⟩
          have HX2 := Lib.hid (etr HE0.out hb2)
          have HT2 := Lib.hid (HCT.out.keep hb2)
          have HA2 := Lib.hid (HCA.out.keep hb2)
          have HE2 := Lib.hid (HCE.out.keep hb2)
          clear hb2
          clear t0 t1 t2 t3 t4 t5 t6 t7 t8 t9 a0 a1 a2 a3 e0 e1 e2 zt za ze
          have t0 := HT2.out.2 0 _ rfl
          have t1 := HT2.out.2 1 _ rfl
          have t2 := HT2.out.2 2 _ rfl
          have t3 := HT2.out.2 3 _ rfl
          have t4 := HT2.out.2 4 _ rfl
          have t5 := HT2.out.2 5 _ rfl
          have t6 := HT2.out.2 6 _ rfl
          have t7 := HT2.out.2 7 _ rfl
          have t8 := HT2.out.2 8 _ rfl
          have t9 := HT2.out.2 9 _ rfl
          have zt := HT2.out.1
          have a0 := HA2.out.2 0 _ rfl
          have a1 := HA2.out.2 1 _ rfl
          have a2 := HA2.out.2 2 _ rfl
          have a3 := HA2.out.2 3 _ rfl
          have za := HA2.out.1
          have e0 := HE2.out.2 0 _ rfl
          have e1 := HE2.out.2 1 _ rfl
          have e2 := HE2.out.2 2 _ rfl
          have ze := HE2.out.1
          go_wp2_with fail
          refine wp_region_after (by kernel_rfl) (by kernel_rfl) ?_
          repeat (first | go_big_quiet_step ((go_at_call 78; exact after_call _ (HPC.out _ (HR.out.keep (etr HX2.out (After.is _)))))))
          refine wpQuiet_nil ?_
          rintro _ ⟨y, rfl⟩
          go_wp2
          go_ret
          exact ⟨ret_int (by rw [HE.out]; simp only [decide_eq_true_eq, decide_eq_false_iff_not] at q3; simp [q3]), etr HX2.out y.is⟩

end Go.Proofs.YtbgmknkmfhpgeaaDoor
