/- Walks of package restriction and of its reference: Check, the searches, Same. -/
import Derived.Test.YtacnfchoemndeaaDoorTLay
import Derived.WalkMore
set_option linter.unusedVariables false
set_option linter.unusedSimpArgs false
set_option maxRecDepth 100000
namespace Go.Proofs.YtacnfchoemndeaaDoor
open Go.ChangeShapes Go.WideShapes Go.ChangeAt Go.RowKit
open Sg

set_option maxHeartbeats 4000000 in
theorem chk_any (L : Lay) (r : Rst) (w : World) (hL : LayOk w L) : Calls Tryd.prog 12 #[.agg #[.string L.name, .slice L.aS L.secs.length L.cS, .slice L.aE L.els.length L.cE, .slice L.aJ L.jts.length L.cJ, .slice L.aG L.sgs.length L.cG, .slice L.aB L.bals.length L.cB], .agg #[.int .i64 r.id, .int .i64 r.el, .int .i64 r.from_, .int .i64 r.to_, .int .i64 r.speed, .bool r.act]] w fun e w' => e = .returned (.int .i64 (chkE L.els r)) ∧ Below w.heap.size w w' := by
  have HL := Lib.hid hL
  clear hL
  obtain ⟨id, el, f, t, v, a⟩ := r
  have E1 : Hid (¬ OkR L.els ⟨id, el, f, t, v, a⟩ → chkE L.els ⟨id, el, f, t, v, a⟩ = 1) := fun h => if_neg h
  have E0 : Hid (OkR L.els ⟨id, el, f, t, v, a⟩ → chkE L.els ⟨id, el, f, t, v, a⟩ = 0) := fun h => if_pos h
  by_cases k1 : id < 1
  · have HV : Hid (chkE L.els ⟨id, el, f, t, v, a⟩ = 1) := E1.out (by unfold OkR; simp only []; omega)
    go_enter Tryd.func12, Tryd.ntmps12
    go_wp2
    go_ret
    exact ⟨ret_int HV.out.symm, eal (eal (Ext.refl _) _) _⟩
  have q1 : decide (id < 1) = false := decide_eq_false k1
  by_cases k2 : 1073741824 < id
  · have HV : Hid (chkE L.els ⟨id, el, f, t, v, a⟩ = 1) := E1.out (by unfold OkR; simp only []; omega)
    go_enter Tryd.func12, Tryd.ntmps12
    go_wp2
    go_ret
    exact ⟨ret_int HV.out.symm, eal (eal (Ext.refl _) _) _⟩
  have q2 : decide (1073741824 < id) = false := decide_eq_false k2
  by_cases k3 : el < 0
  · have HV : Hid (chkE L.els ⟨id, el, f, t, v, a⟩ = 1) := E1.out (by unfold OkR; simp only []; omega)
    go_enter Tryd.func12, Tryd.ntmps12
    go_wp2
    go_ret
    exact ⟨ret_int HV.out.symm, eal (eal (Ext.refl _) _) _⟩
  have q3 : decide (el < 0) = false := decide_eq_false k3
  by_cases k4 : (L.els.length : Int) ≤ el
  · have HV : Hid (chkE L.els ⟨id, el, f, t, v, a⟩ = 1) := E1.out (by unfold OkR; simp only []; omega)
    go_enter Tryd.func12, Tryd.ntmps12
    go_wp2
    go_ret
    exact ⟨ret_int HV.out.symm, eal (eal (Ext.refl _) _) _⟩
  have q4 : decide ((L.els.length : Int) ≤ el) = false := decide_eq_false k4
  obtain ⟨k, rfl⟩ : ∃ k : Nat, el = (k : Int) := ⟨el.toNat, by omega⟩
  have hlt : k < L.els.length := by omega
  obtain ⟨b, off, x, hA, hs, hbs, c0, c1, c2, c3, c4, c5, c6⟩ := rd_el HL.out.hE (eal (eal (Ext.refl w) (.cells #[.string L.name, .slice L.aS L.secs.length L.cS, .slice L.aE L.els.length L.cE, .slice L.aJ L.jts.length L.cJ, .slice L.aG L.sgs.length L.cG, .slice L.aB L.bals.length L.cB] 28)) (.cells #[.int .i64 id, .int .i64 k, .int .i64 f, .int .i64 t, .int .i64 v, .bool a] 31)) hlt
  have hx : elAt L.els (k : Int) = x := elAt_of hs
  have hbl : b < w.heap.size := by
    obtain ⟨b', off', e, h1, _⟩ := HL.out.hE (by omega)
    rw [hA] at e; cases e; exact h1
  have d2 : w.cell? ⟨b, off + k * 7 + 2, none⟩ = some (.int .i64 x.len) := by
    have := c2
    rw [World.cell?_alloc_lt _ _ _ (by simp; omega), World.cell?_alloc_lt _ _ _ hbl] at this
    exact this
  have qN : decide (L.els.length ≤ k) = false := decide_eq_false (by omega)
  have hbl1 : b < w.heap.size + 1 := by omega
  have hbl2 : b < w.heap.size + 1 + 1 := by omega
  have OE : Hid (OkR L.els ⟨id, k, f, t, v, a⟩ ↔ 0 ≤ f ∧ f < t ∧ t ≤ x.len ∧ 100 ≤ v ∧ v ≤ 10000) := by
    show _ ↔ _
    unfold OkR
    simp only [hx]
    omega
  clear c0 c1 c2 c3 c4 c5 c6 hx hs k3 k4
  by_cases k5 : f < 0
  · have HV : Hid (chkE L.els ⟨id, (k : Int), f, t, v, a⟩ = 1) := E1.out (by rw [OE.out]; omega)
    go_enter Tryd.func12, Tryd.ntmps12
    go_wp2
    refine wp_region_after (by kernel_rfl) (by kernel_rfl) ?_
    repeat (first | go_big_quiet_step (fail))
    refine wpQuiet_nil ?_
    rintro _ ⟨y, rfl⟩
    go_wp2
    go_ret
    exact ⟨ret_int HV.out.symm, etr (eal (eal (Ext.refl _) _) _) y.is⟩
  have q5 : decide (f < 0) = false := decide_eq_false k5
  by_cases k6 : t ≤ f
  · have HV : Hid (chkE L.els ⟨id, (k : Int), f, t, v, a⟩ = 1) := E1.out (by rw [OE.out]; omega)
    go_enter Tryd.func12, Tryd.ntmps12
    go_wp2
    refine wp_region_after (by kernel_rfl) (by kernel_rfl) ?_
    repeat (first | go_big_quiet_step (fail))
    refine wpQuiet_nil ?_
    rintro _ ⟨y, rfl⟩
    go_wp2
    go_ret
    exact ⟨ret_int HV.out.symm, etr (eal (eal (Ext.refl _) _) _) y.is⟩
  have q6 : decide (t ≤ f) = false := decide_eq_false k6
  by_cases k7 : x.len < t
  · have HV : Hid (chkE L.els ⟨id, (k : Int), f, t, v, a⟩ = 1) := E1.out (by rw [OE.out]; omega)
    go_enter Tryd.func12, Tryd.ntmps12
    go_wp2
    refine wp_region_after (by kernel_rfl) (by kernel_rfl) ?_
    repeat (first | go_big_quiet_step (fail))
    refine wpQuiet_nil ?_
    rintro _ ⟨y, rfl⟩
    go_wp2
    go_ret
    exact ⟨ret_int HV.out.symm, etr (eal (eal (Ext.refl _) _) _) y.is⟩
  have q7 : decide (x.len < t) = false := decide_eq_false k7
  by_cases k8 : v < 100
  · have HV : Hid (chkE L.els ⟨id, (k : Int), f, t, v, a⟩ = 1) := E1.out (by rw [OE.out]; omega)
    go_enter Tryd.func12, Tryd.ntmps12
    go_wp2
    refine wp_region_after (by kernel_rfl) (by kernel_rfl) ?_
    repeat (first | go_big_quiet_step (fail))
    refine wpQuiet_nil ?_
    rintro _ ⟨y, rfl⟩
    go_wp2
    go_ret
    exact ⟨ret_int HV.out.symm, etr (eal (eal (Ext.refl _) _) _) y.is⟩
  have q8 : decide (v < 100) = false := decide_eq_false k8
  by_cases k9 : 10000 < v
  · have HV : Hid (chkE L.els ⟨id, (k : Int), f, t, v, a⟩ = 1) := E1.out (by rw [OE.out]; omega)
    go_enter Tryd.func12, Tryd.ntmps12
    go_wp2
    refine wp_region_after (by kernel_rfl) (by kernel_rfl) ?_
    repeat (first | go_big_quiet_step (fail))
    refine wpQuiet_nil ?_
    rintro _ ⟨y, rfl⟩
    go_wp2
    go_ret
    exact ⟨ret_int HV.out.symm, etr (eal (eal (Ext.refl _) _) _) y.is⟩
  have q9 : decide (10000 < v) = false := decide_eq_false k9
  have HV : Hid (chkE L.els ⟨id, (k : Int), f, t, v, a⟩ = 0) := E0.out (by rw [OE.out]; omega)
  go_enter Tryd.func12, Tryd.ntmps12
  go_wp2
  refine wp_region_after (by kernel_rfl) (by kernel_rfl) ?_
  repeat (first | go_big_quiet_step (fail))
  refine wpQuiet_nil ?_
  rintro _ ⟨y, rfl⟩
  go_wp2
  go_ret
  exact ⟨ret_int HV.out.symm, etr (eal (eal (Ext.refl _) _) _) y.is⟩
set_option maxHeartbeats 4000000 in
theorem rchk_any (L : Lay) (r : Rst) (w : World) (hL : LayOk w L) : Calls Tryd.prog 13 #[.agg #[.string L.name, .slice L.aS L.secs.length L.cS, .slice L.aE L.els.length L.cE, .slice L.aJ L.jts.length L.cJ, .slice L.aG L.sgs.length L.cG, .slice L.aB L.bals.length L.cB], .agg #[.int .i64 r.id, .int .i64 r.el, .int .i64 r.from_, .int .i64 r.to_, .int .i64 r.speed, .bool r.act]] w fun e w' => e = .returned (.int .i64 (chkE L.els r)) ∧ Below w.heap.size w w' := by
  have HL := Lib.hid hL
  clear hL
  obtain ⟨id, el, f, t, v, a⟩ := r
  have E1 : Hid (¬ OkR L.els ⟨id, el, f, t, v, a⟩ → chkE L.els ⟨id, el, f, t, v, a⟩ = 1) := fun h => if_neg h
  have E0 : Hid (OkR L.els ⟨id, el, f, t, v, a⟩ → chkE L.els ⟨id, el, f, t, v, a⟩ = 0) := fun h => if_pos h
  by_cases k1 : id < 1
  · have HV : Hid (chkE L.els ⟨id, el, f, t, v, a⟩ = 1) := E1.out (by unfold OkR; simp only []; omega)
    go_enter Tryd.func13, Tryd.ntmps13
    go_wp2
    refine wp_region_after (by kernel_rfl) (by kernel_rfl) ?_
    repeat (first | go_big_quiet_step (fail))
    refine wpQuiet_nil ?_
    rintro _ ⟨y, rfl⟩
    go_wp2
    go_ret
    exact ⟨ret_int HV.out.symm, etr (eal (eal (Ext.refl _) _) _) y.is⟩
  have q1 : decide (id < 1) = false := decide_eq_false k1
  by_cases k2 : 1073741824 < id
  · have HV : Hid (chkE L.els ⟨id, el, f, t, v, a⟩ = 1) := E1.out (by unfold OkR; simp only []; omega)
    go_enter Tryd.func13, Tryd.ntmps13
    go_wp2
    refine wp_region_after (by kernel_rfl) (by kernel_rfl) ?_
    repeat (first | go_big_quiet_step (fail))
    refine wpQuiet_nil ?_
    rintro _ ⟨y, rfl⟩
    go_wp2
    go_ret
    exact ⟨ret_int HV.out.symm, etr (eal (eal (Ext.refl _) _) _) y.is⟩
  have q2 : decide (1073741824 < id) = false := decide_eq_false k2
  by_cases k3 : el < 0
  · have HV : Hid (chkE L.els ⟨id, el, f, t, v, a⟩ = 1) := E1.out (by unfold OkR; simp only []; omega)
    go_enter Tryd.func13, Tryd.ntmps13
    go_wp2
    refine wp_region_after (by kernel_rfl) (by kernel_rfl) ?_
    repeat (first | go_big_quiet_step (fail))
    refine wpQuiet_nil ?_
    rintro _ ⟨y, rfl⟩
    go_wp2
    go_ret
    exact ⟨ret_int HV.out.symm, etr (eal (eal (Ext.refl _) _) _) y.is⟩
  have q3 : decide (el < 0) = false := decide_eq_false k3
  by_cases k4 : (L.els.length : Int) ≤ el
  · have HV : Hid (chkE L.els ⟨id, el, f, t, v, a⟩ = 1) := E1.out (by unfold OkR; simp only []; omega)
    go_enter Tryd.func13, Tryd.ntmps13
    go_wp2
    refine wp_region_after (by kernel_rfl) (by kernel_rfl) ?_
    repeat (first | go_big_quiet_step (fail))
    refine wpQuiet_nil ?_
    rintro _ ⟨y, rfl⟩
    go_wp2
    go_ret
    exact ⟨ret_int HV.out.symm, etr (eal (eal (Ext.refl _) _) _) y.is⟩
  have q4 : decide ((L.els.length : Int) ≤ el) = false := decide_eq_false k4
  obtain ⟨k, rfl⟩ : ∃ k : Nat, el = (k : Int) := ⟨el.toNat, by omega⟩
  have hlt : k < L.els.length := by omega
  obtain ⟨b, off, x, hA, hs, hbs, c0, c1, c2, c3, c4, c5, c6⟩ := rd_el HL.out.hE (eal (eal (Ext.refl w) (.cells #[.string L.name, .slice L.aS L.secs.length L.cS, .slice L.aE L.els.length L.cE, .slice L.aJ L.jts.length L.cJ, .slice L.aG L.sgs.length L.cG, .slice L.aB L.bals.length L.cB] 28)) (.cells #[.int .i64 id, .int .i64 k, .int .i64 f, .int .i64 t, .int .i64 v, .bool a] 31)) hlt
  have hx : elAt L.els (k : Int) = x := elAt_of hs
  have hbl : b < w.heap.size := by
    obtain ⟨b', off', e, h1, _⟩ := HL.out.hE (by omega)
    rw [hA] at e; cases e; exact h1
  have d2 : w.cell? ⟨b, off + k * 7 + 2, none⟩ = some (.int .i64 x.len) := by
    have := c2
    rw [World.cell?_alloc_lt _ _ _ (by simp; omega), World.cell?_alloc_lt _ _ _ hbl] at this
    exact this
  have qN : decide (L.els.length ≤ k) = false := decide_eq_false (by omega)
  have hbl1 : b < w.heap.size + 1 := by omega
  have hbl2 : b < w.heap.size + 1 + 1 := by omega
  have OE : Hid (OkR L.els ⟨id, k, f, t, v, a⟩ ↔ 0 ≤ f ∧ f < t ∧ t ≤ x.len ∧ 100 ≤ v ∧ v ≤ 10000) := by
    show _ ↔ _
    unfold OkR
    simp only [hx]
    omega
  clear c0 c1 c2 c3 c4 c5 c6 hx hs k3 k4
  by_cases k5 : f < 0
  · have HV : Hid (chkE L.els ⟨id, (k : Int), f, t, v, a⟩ = 1) := E1.out (by rw [OE.out]; omega)
    go_enter Tryd.func13, Tryd.ntmps13
    go_wp2
    refine wp_region_after (by kernel_rfl) (by kernel_rfl) ?_
    repeat (first | go_big_quiet_step (fail))
    refine wpQuiet_nil ?_
    rintro _ ⟨y, rfl⟩
    go_wp2
    go_ret
    exact ⟨ret_int HV.out.symm, etr (eal (eal (Ext.refl _) _) _) y.is⟩
  have q5 : decide (f < 0) = false := decide_eq_false k5
  by_cases k6 : t ≤ f
  · have HV : Hid (chkE L.els ⟨id, (k : Int), f, t, v, a⟩ = 1) := E1.out (by rw [OE.out]; omega)
    go_enter Tryd.func13, Tryd.ntmps13
    go_wp2
    refine wp_region_after (by kernel_rfl) (by kernel_rfl) ?_
    repeat (first | go_big_quiet_step (fail))
    refine wpQuiet_nil ?_
    rintro _ ⟨y, rfl⟩
    go_wp2
    go_ret
    exact ⟨ret_int HV.out.symm, etr (eal (eal (Ext.refl _) _) _) y.is⟩
  have q6 : decide (t ≤ f) = false := decide_eq_false k6
  by_cases k7 : x.len < t
  · have HV : Hid (chkE L.els ⟨id, (k : Int), f, t, v, a⟩ = 1) := E1.out (by rw [OE.out]; omega)
    go_enter Tryd.func13, Tryd.ntmps13
    go_wp2
    refine wp_region_after (by kernel_rfl) (by kernel_rfl) ?_
    repeat (first | go_big_quiet_step (fail))
    refine wpQuiet_nil ?_
    rintro _ ⟨y, rfl⟩
    go_wp2
    go_ret
    exact ⟨ret_int HV.out.symm, etr (eal (eal (Ext.refl _) _) _) y.is⟩
  have q7 : decide (x.len < t) = false := decide_eq_false k7
  by_cases k8 : v < 100
  · have HV : Hid (chkE L.els ⟨id, (k : Int), f, t, v, a⟩ = 1) := E1.out (by rw [OE.out]; omega)
    go_enter Tryd.func13, Tryd.ntmps13
    go_wp2
    refine wp_region_after (by kernel_rfl) (by kernel_rfl) ?_
    repeat (first | go_big_quiet_step (fail))
    refine wpQuiet_nil ?_
    rintro _ ⟨y, rfl⟩
    go_wp2
    go_ret
    exact ⟨ret_int HV.out.symm, etr (eal (eal (Ext.refl _) _) _) y.is⟩
  have q8 : decide (v < 100) = false := decide_eq_false k8
  by_cases k9 : 10000 < v
  · have HV : Hid (chkE L.els ⟨id, (k : Int), f, t, v, a⟩ = 1) := E1.out (by rw [OE.out]; omega)
    go_enter Tryd.func13, Tryd.ntmps13
    go_wp2
    refine wp_region_after (by kernel_rfl) (by kernel_rfl) ?_
    repeat (first | go_big_quiet_step (fail))
    refine wpQuiet_nil ?_
    rintro _ ⟨y, rfl⟩
    go_wp2
    go_ret
    exact ⟨ret_int HV.out.symm, etr (eal (eal (Ext.refl _) _) _) y.is⟩
  have q9 : decide (10000 < v) = false := decide_eq_false k9
  have HV : Hid (chkE L.els ⟨id, (k : Int), f, t, v, a⟩ = 0) := E0.out (by rw [OE.out]; omega)
  go_enter Tryd.func13, Tryd.ntmps13
  go_wp2
  refine wp_region_after (by kernel_rfl) (by kernel_rfl) ?_
  repeat (first | go_big_quiet_step (fail))
  refine wpQuiet_nil ?_
  rintro _ ⟨y, rfl⟩
  go_wp2
  go_ret
  exact ⟨ret_int HV.out.symm, etr (eal (eal (Ext.refl _) _) _) y.is⟩
end Go.Proofs.YtacnfchoemndeaaDoor
