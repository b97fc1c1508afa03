/- Walks: motion.Grade, its reference, free, good, Good. Printed by gen_motc.py. -/
import Derived.Test.YticonpjkcocgeaaDoorWBodY
import Derived.Test.YticonpjkcocgeaaDoorWTrs
import Derived.Test.YticonpjkcocgeaaDoorPAll
import Derived.Test.YticonpjkcocgeaaDoorKAll
import Derived.Lib.MinMax
set_option linter.unusedVariables false
set_option linter.unusedSimpArgs false
set_option maxRecDepth 100000
namespace Go.Proofs.YticonpjkcocgeaaDoor
open Go.ChangeShapes Go.WideShapes Go.ChangeAt Go.RowKit
open Sg

theorem grad_up {els : List Elm} {jts : List Jnt} {l : List Stp} {head len : Int} {x : Elm} (h : chkM els jts l head len = 0) (hx : elAt els (lastS l).el = x) (g : (lastS l).in_ = 0 ∨ ((lastS l).in_ = 2 ∧ x.kind = 3)) : gradV els jts l head len = x.grade := by
  unfold gradV; rw [if_pos h, hx, if_pos g]
theorem grad_down {els : List Elm} {jts : List Jnt} {l : List Stp} {head len : Int} {x : Elm} (h : chkM els jts l head len = 0) (hx : elAt els (lastS l).el = x) (g : ¬ ((lastS l).in_ = 0 ∨ ((lastS l).in_ = 2 ∧ x.kind = 3))) : gradV els jts l head len = -x.grade := by
  unfold gradV; rw [if_pos h, hx, if_neg g]
theorem grad_no {els : List Elm} {jts : List Jnt} {l : List Stp} {head len : Int} (h : chkM els jts l head len ≠ 0) : gradV els jts l head len = 0 := by
  unfold gradV; rw [if_neg h]
theorem run_min3 {P : Program} (w : World) (ts : Array TypeId) (t : TypeId) (x y z : Int) : (Builtin.min_ ts t #[.int .i64 x, .int .i64 y, .int .i64 z]).run P w = .ok (.int .i64 (min (min x y) z)) w := by
  have e : (if z < (if y < x then y else x) then z else (if y < x then y else x)) = min (min x y) z := by
    rw [Int.min_def, Int.min_def]
    repeat' split
    all_goals omega
  rw [← e]
  simp [Builtin.min_, Builtin.min2]
theorem run_max3 {P : Program} (w : World) (ts : Array TypeId) (t : TypeId) (x y z : Int) : (Builtin.max_ ts t #[.int .i64 x, .int .i64 y, .int .i64 z]).run P w = .ok (.int .i64 (max (max x y) z)) w := by
  have e : (if z > (if y > x then y else x) then z else (if y > x then y else x)) = max (max x y) z := by
    rw [Int.max_def, Int.max_def]
    repeat' split
    all_goals omega
  rw [← e]
  simp [Builtin.max_, Builtin.max2]
attribute [go_sem] run_min3 run_max3
theorem wp_ldG {P : Program} {w : World} {ops : Array Oper} {rest : List Oper} {o : Oper} {a : Act} {Q : Exit → Act → World → Prop} {x : Operand} {b off : Nat} {us : List Value} (t : TypeId) (vs : List Value) {fs : Array Field} (ho : o.op = .load t x) (hw : Region.wanted o (yielded ops a.tmps) = true) (hx : a.eval x = .pointer (some ⟨b, off, none⟩)) (hc : CellsAt w b us) (hu : P.underlying t = some (.struct fs))
    (hn : (P.info? t).map (·.size) = some vs.length) (hv : (us.drop off).take vs.length = vs)
    (h : wpList P ops Q rest (a.put o.dst (.agg vs.toArray)) w) : wpList P ops Q (o :: rest) a w := by
  refine BigFrame.wpList_want hw fun K hK => ?_
  unfold Oper.wp execOp
  simp only [ho, hx, Sem.run_bind, Sem.run_pure, run_ldN hu hn hc hv]
  exact hK _ _ h
section
set_option maxHeartbeats 16000000
theorem grade_any (L : Lay) (A : Option Addr) (way : List Stp) (c : Nat) (head len : Int) (w : World) (hL : LayOk w L) (hT : Tabs w) (hE : ElsOk L.els) (hr : Rd w A 3 Stc way) (hm : way.length ≤ 200) (hc : way.length ≤ c) : Calls Tryd.prog 22 #[.agg #[.string L.name, .slice L.aS L.secs.length L.cS, .slice L.aE L.els.length L.cE, .slice L.aJ L.jts.length L.cJ, .slice L.aG L.sgs.length L.cG, .slice L.aB L.bals.length L.cB], .agg #[.slice A way.length c, .int .i64 head, .int .i64 len]] w fun e w' => e = .returned (.int .i64 (gradV L.els L.jts way head len)) ∧ Below w.heap.size w w' := by
  have HL := Lib.hid hL
  have HE := Lib.hid hE
  have HR := Lib.hid hr
  have HC := Lib.hid hc
  have HM := Lib.hid hm
  have HT := Lib.hid hT
  obtain ⟨cv, hcv⟩ : ∃ cv, cv = chkM L.els L.jts way head len := ⟨_, rfl⟩
  have HCV := Lib.hid hcv
  have HCK : Hid (∀ w' : World, Ext w w' → Calls Tryd.prog 24 #[.agg #[.string L.name, .slice L.aS L.secs.length L.cS, .slice L.aE L.els.length L.cE, .slice L.aJ L.jts.length L.cJ, .slice L.aG L.sgs.length L.cG, .slice L.aB L.bals.length L.cB], .agg #[.slice A way.length c, .int .i64 head, .int .i64 len]] w' fun e w2 => e = .returned (.int .i64 cv) ∧ Below w'.heap.size w' w2) := fun w' h1 => by
    have := bchk_any L A way c head len w' (HL.out.keep h1) (HT.out.keep h1) HE.out (HR.out.keep h1) HM.out HC.out
    rw [← HCV.out] at this; exact this
  clear hL hE hr hc hm hT
  by_cases k0 : cv = 0
  case neg =>
    have HV : Hid (gradV L.els L.jts way head len = 0) := grad_no (by rw [← hcv]; exact k0)
    have q0 : (cv != 0) = true := by simpa using k0
    clear k0 hcv
    go_enter Tryd.func22, Tryd.ntmps22
    go_wp2_with (go_at_call 24; refine (to_after (HCK.out _ (eal (eal (Ext.refl _) _) _))).mono ?_; rintro e w' ⟨y, rfl, rfl⟩)
    go_ret
    exact ⟨ret_int HV.out.symm, etr (eal (eal (Ext.refl _) _) _) y.is⟩
  have hk : chkM L.els L.jts way head len = 0 := by rw [← hcv]; exact k0
  subst k0
  have hway := (chkM_zero.1 hk).1.1
  have h0 : 0 < way.length := hway.1
  have hm64 : way.length ≤ 64 := hway.2.1
  have hlast := (hway.step (lastS_get h0)).1
  obtain ⟨kE, x, hel, hx, hxe⟩ := has_at hlast
  have hxb := HE.out kE x hx
  have hkE := (List.getElem?_eq_some_iff.1 hx).1
  have hmE := HL.out.lE
  unfold maxLen at hmE
  obtain ⟨bE, oE, x', hAE, hx', hbE, e0, e1, e2, e3, e4, e5, e6⟩ := rd_el HL.out.hE (Ext.refl w) hkE
  rw [hx] at hx'
  cases hx'
  obtain ⟨bw, ow, s, rfl, hs, hbs, s0, s1, s2⟩ := rd_st HR.out (Ext.refl w) (k := way.length - 1) (by omega)
  obtain rfl : s = lastS way := by have := lastS_get h0; rw [hs] at this; cases this; rfl
  rw [hel] at s0
  have n1 : IntKind.i64.wrap ((way.length : Int) - 1) = (way.length : Int) - 1 := IntWalk.i64_in _ (by omega)
  have n2 : ((way.length : Int) - 1).toNat = way.length - 1 := by omega
  have n3 : (0 : Int) ≤ (way.length : Int) - 1 := by omega
  have n4 : (way.length : Int) - 1 < (way.length : Int) := by omega
  have n5 : (1 : Int) ≤ (way.length : Int) := by omega
  have n6 : 1 ≤ way.length := by omega
  have n7 : way.length - 1 < way.length := by omega
  have n8 : ((way.length : Int) == 0) = false := beq_eq_false_iff_ne.2 (by omega)
  have n9 : IntKind.i64.wrap (-x.grade) = -x.grade := IntWalk.i64_in _ (by have := hxb.2.2.2.2; omega)
  have p1 : decide ((kE : Int) < 0) = false := decide_eq_false (by omega)
  have p2 : decide ((L.els.length : Int) ≤ (kE : Int)) = false := decide_eq_false (by omega)
  have p3 : decide (L.els.length ≤ kE) = false := decide_eq_false (by omega)
  obtain ⟨li, hli⟩ : ∃ li, li = (lastS way).in_ := ⟨_, rfl⟩
  have HUP : Hid (li = 0 ∨ (li = 2 ∧ x.kind = 3) → gradV L.els L.jts way head len = x.grade) := fun g => grad_up hk hxe (by rw [← hli]; exact g)
  have HDN : Hid (¬ (li = 0 ∨ (li = 2 ∧ x.kind = 3)) → gradV L.els L.jts way head len = -x.grade) := fun g => grad_down hk hxe (by rw [← hli]; exact g)
  rw [← hli] at s1
  generalize ho9 : (lastS way).out_ = lo at s2
  rw [hAE] at HCK ⊢
  clear ho9 hli hs hel hx hxe hlast hway hk hcv hxb hAE
  have key : (li = 0 ∧ (li == 0) = true) ∨ ((li == 0) = false ∧ li ≠ 0 ∧ (li == 2) = false ∧ li ≠ 2) ∨ ((li == 0) = false ∧ (li == 2) = true ∧ (x.kind == 3) = true ∧ li = 2 ∧ x.kind = 3) ∨ ((li == 0) = false ∧ li ≠ 0 ∧ (li == 2) = true ∧ (x.kind == 3) = false ∧ x.kind ≠ 3) := by
    by_cases q0 : li = 0
    · exact .inl ⟨q0, by simp [q0]⟩
    · by_cases q2 : li = 2
      · by_cases q3 : x.kind = 3
        · exact .inr (.inr (.inl ⟨by simp [q0], by simp [q2], by simp [q3], q2, q3⟩))
        · exact .inr (.inr (.inr ⟨by simp [q0], q0, by simp [q2], by simp [q3], q3⟩))
      · exact .inr (.inl ⟨by simp [q0], q0, by simp [q2], q2⟩)
  have fin : ∀ (b : Bool), True := fun _ => trivial
  rcases key with ⟨r1, q1⟩ | ⟨q1, r1, q2, r2⟩ | ⟨q1, q2, q3, r1, r2⟩ | ⟨q1, r1, q2, q3, r2⟩
  · have HV : Hid (gradV L.els L.jts way head len = x.grade) := HUP.out (.inl r1)
    clear r1 fin
    go_enter Tryd.func22, Tryd.ntmps22
    go_wp2_with (go_at_call 24; refine (to_after (HCK.out _ (eal (eal (Ext.refl _) _) _))).mono ?_; rintro e w' ⟨y, rfl, rfl⟩; have y1 : w.heap.size + 1 < y.val.heap.size := (by have h := y.is.size; simp at h; omega); have y0 : w.heap.size < y.val.heap.size := (by omega); have hb1 : bE < w.heap.size + 1 + 1 := (by omega); have hb2 : bw < w.heap.size + 1 + 1 := (by omega); have hb3 : bE < w.heap.size + 1 := (by omega); have hb4 : bw < w.heap.size + 1 := (by omega); have hb5 : bE < y.val.heap.size := (by omega); have hb6 : bw < y.val.heap.size := (by omega))
    go_ret
    exact ⟨ret_int HV.out.symm, eal (eal (etr (eal (eal (Ext.refl _) _) _) y.is) _) _⟩
  · have HV : Hid (gradV L.els L.jts way head len = -x.grade) := HDN.out (fun g => by rcases g with g | g; exact r1 g; exact r2 g.1)
    clear r1 r2 fin
    go_enter Tryd.func22, Tryd.ntmps22
    go_wp2_with (go_at_call 24; refine (to_after (HCK.out _ (eal (eal (Ext.refl _) _) _))).mono ?_; rintro e w' ⟨y, rfl, rfl⟩; have y1 : w.heap.size + 1 < y.val.heap.size := (by have h := y.is.size; simp at h; omega); have y0 : w.heap.size < y.val.heap.size := (by omega); have hb1 : bE < w.heap.size + 1 + 1 := (by omega); have hb2 : bw < w.heap.size + 1 + 1 := (by omega); have hb3 : bE < w.heap.size + 1 := (by omega); have hb4 : bw < w.heap.size + 1 := (by omega); have hb5 : bE < y.val.heap.size := (by omega); have hb6 : bw < y.val.heap.size := (by omega))
    go_ret
    exact ⟨ret_int HV.out.symm, eal (eal (etr (eal (eal (Ext.refl _) _) _) y.is) _) _⟩
  · have HV : Hid (gradV L.els L.jts way head len = x.grade) := HUP.out (.inr ⟨r1, r2⟩)
    clear r1 r2 fin
    go_enter Tryd.func22, Tryd.ntmps22
    go_wp2_with (go_at_call 24; refine (to_after (HCK.out _ (eal (eal (Ext.refl _) _) _))).mono ?_; rintro e w' ⟨y, rfl, rfl⟩; have y1 : w.heap.size + 1 < y.val.heap.size := (by have h := y.is.size; simp at h; omega); have y0 : w.heap.size < y.val.heap.size := (by omega); have hb1 : bE < w.heap.size + 1 + 1 := (by omega); have hb2 : bw < w.heap.size + 1 + 1 := (by omega); have hb3 : bE < w.heap.size + 1 := (by omega); have hb4 : bw < w.heap.size + 1 := (by omega); have hb5 : bE < y.val.heap.size := (by omega); have hb6 : bw < y.val.heap.size := (by omega))
    go_ret
    exact ⟨ret_int HV.out.symm, eal (eal (etr (eal (eal (Ext.refl _) _) _) y.is) _) _⟩
  · have HV : Hid (gradV L.els L.jts way head len = -x.grade) := HDN.out (fun g => by rcases g with g | g; exact r1 g; exact r2 g.2)
    clear r1 r2 fin
    go_enter Tryd.func22, Tryd.ntmps22
    go_wp2_with (go_at_call 24; refine (to_after (HCK.out _ (eal (eal (Ext.refl _) _) _))).mono ?_; rintro e w' ⟨y, rfl, rfl⟩; have y1 : w.heap.size + 1 < y.val.heap.size := (by have h := y.is.size; simp at h; omega); have y0 : w.heap.size < y.val.heap.size := (by omega); have hb1 : bE < w.heap.size + 1 + 1 := (by omega); have hb2 : bw < w.heap.size + 1 + 1 := (by omega); have hb3 : bE < w.heap.size + 1 := (by omega); have hb4 : bw < w.heap.size + 1 := (by omega); have hb5 : bE < y.val.heap.size := (by omega); have hb6 : bw < y.val.heap.size := (by omega))
    go_ret
    exact ⟨ret_int HV.out.symm, eal (eal (etr (eal (eal (Ext.refl _) _) _) y.is) _) _⟩
theorem rgrade_any (L : Lay) (A : Option Addr) (way : List Stp) (c : Nat) (head len : Int) (w : World) (hL : LayOk w L) (hE : ElsOk L.els) (hr : Rd w A 3 Stc way) (hm : way.length ≤ 200) (hc : way.length ≤ c) : Calls Tryd.prog 23 #[.agg #[.string L.name, .slice L.aS L.secs.length L.cS, .slice L.aE L.els.length L.cE, .slice L.aJ L.jts.length L.cJ, .slice L.aG L.sgs.length L.cG, .slice L.aB L.bals.length L.cB], .agg #[.slice A way.length c, .int .i64 head, .int .i64 len]] w fun e w' => e = .returned (.int .i64 (gradV L.els L.jts way head len)) ∧ Below w.heap.size w w' := by
  have HL := Lib.hid hL
  have HE := Lib.hid hE
  have HR := Lib.hid hr
  have HC := Lib.hid hc
  have HM := Lib.hid hm
  obtain ⟨cv, hcv⟩ : ∃ cv, cv = chkM L.els L.jts way head len := ⟨_, rfl⟩
  have HCV := Lib.hid hcv
  have HCK : Hid (∀ w' : World, Ext w w' → Calls Tryd.prog 39 #[.agg #[.string L.name, .slice L.aS L.secs.length L.cS, .slice L.aE L.els.length L.cE, .slice L.aJ L.jts.length L.cJ, .slice L.aG L.sgs.length L.cG, .slice L.aB L.bals.length L.cB], .agg #[.slice A way.length c, .int .i64 head, .int .i64 len]] w' fun e w2 => e = .returned (.int .i64 cv) ∧ Below w'.heap.size w' w2) := fun w' h1 => by
    have := rbchk_any L A way c head len w' (HL.out.keep h1) HE.out (HR.out.keep h1) HM.out HC.out
    rw [← HCV.out] at this; exact this
  clear hL hE hr hc hm 
  by_cases k0 : cv = 0
  case neg =>
    have HV : Hid (gradV L.els L.jts way head len = 0) := grad_no (by rw [← hcv]; exact k0)
    have q0 : (cv != 0) = true := by simpa using k0
    clear k0 hcv
    go_enter Tryd.func23, Tryd.ntmps23
    go_wp2_with (go_at_call 39; refine (to_after (HCK.out _ (eal (eal (Ext.refl _) _) _))).mono ?_; rintro e w' ⟨y, rfl, rfl⟩)
    go_ret
    exact ⟨ret_int HV.out.symm, etr (eal (eal (Ext.refl _) _) _) y.is⟩
  have hk : chkM L.els L.jts way head len = 0 := by rw [← hcv]; exact k0
  subst k0
  have hway := (chkM_zero.1 hk).1.1
  have h0 : 0 < way.length := hway.1
  have hm64 : way.length ≤ 64 := hway.2.1
  have hlast := (hway.step (lastS_get h0)).1
  obtain ⟨kE, x, hel, hx, hxe⟩ := has_at hlast
  have hxb := HE.out kE x hx
  have hkE := (List.getElem?_eq_some_iff.1 hx).1
  have hmE := HL.out.lE
  unfold maxLen at hmE
  obtain ⟨bE, oE, x', hAE, hx', hbE, e0, e1, e2, e3, e4, e5, e6⟩ := rd_el HL.out.hE (Ext.refl w) hkE
  rw [hx] at hx'
  cases hx'
  obtain ⟨bw, ow, s, rfl, hs, hbs, s0, s1, s2⟩ := rd_st HR.out (Ext.refl w) (k := way.length - 1) (by omega)
  obtain rfl : s = lastS way := by have := lastS_get h0; rw [hs] at this; cases this; rfl
  rw [hel] at s0
  have n1 : IntKind.i64.wrap ((way.length : Int) - 1) = (way.length : Int) - 1 := IntWalk.i64_in _ (by omega)
  have n2 : ((way.length : Int) - 1).toNat = way.length - 1 := by omega
  have n3 : (0 : Int) ≤ (way.length : Int) - 1 := by omega
  have n4 : (way.length : Int) - 1 < (way.length : Int) := by omega
  have n5 : (1 : Int) ≤ (way.length : Int) := by omega
  have n6 : 1 ≤ way.length := by omega
  have n7 : way.length - 1 < way.length := by omega
  have n8 : ((way.length : Int) == 0) = false := beq_eq_false_iff_ne.2 (by omega)
  have n9 : IntKind.i64.wrap (-x.grade) = -x.grade := IntWalk.i64_in _ (by have := hxb.2.2.2.2; omega)
  have p1 : decide ((kE : Int) < 0) = false := decide_eq_false (by omega)
  have p2 : decide ((L.els.length : Int) ≤ (kE : Int)) = false := decide_eq_false (by omega)
  have p3 : decide (L.els.length ≤ kE) = false := decide_eq_false (by omega)
  obtain ⟨li, hli⟩ : ∃ li, li = (lastS way).in_ := ⟨_, rfl⟩
  have HUP : Hid (li = 0 ∨ (li = 2 ∧ x.kind = 3) → gradV L.els L.jts way head len = x.grade) := fun g => grad_up hk hxe (by rw [← hli]; exact g)
  have HDN : Hid (¬ (li = 0 ∨ (li = 2 ∧ x.kind = 3)) → gradV L.els L.jts way head len = -x.grade) := fun g => grad_down hk hxe (by rw [← hli]; exact g)
  rw [← hli] at s1
  generalize ho9 : (lastS way).out_ = lo at s2
  rw [hAE] at HCK ⊢
  clear ho9 hli hs hel hx hxe hlast hway hk hcv hxb hAE
  have key : (li = 0 ∧ (li == 0) = true) ∨ ((li == 0) = false ∧ li ≠ 0 ∧ (li == 2) = false ∧ li ≠ 2) ∨ ((li == 0) = false ∧ (li == 2) = true ∧ (x.kind == 3) = true ∧ li = 2 ∧ x.kind = 3) ∨ ((li == 0) = false ∧ li ≠ 0 ∧ (li == 2) = true ∧ (x.kind == 3) = false ∧ x.kind ≠ 3) := by
    by_cases q0 : li = 0
    · exact .inl ⟨q0, by simp [q0]⟩
    · by_cases q2 : li = 2
      · by_cases q3 : x.kind = 3
        · exact .inr (.inr (.inl ⟨by simp [q0], by simp [q2], by simp [q3], q2, q3⟩))
        · exact .inr (.inr (.inr ⟨by simp [q0], q0, by simp [q2], by simp [q3], q3⟩))
      · exact .inr (.inl ⟨by simp [q0], q0, by simp [q2], q2⟩)
  have fin : ∀ (b : Bool), True := fun _ => trivial
  rcases key with ⟨r1, q1⟩ | ⟨q1, r1, q2, r2⟩ | ⟨q1, q2, q3, r1, r2⟩ | ⟨q1, r1, q2, q3, r2⟩
  · have HV : Hid (gradV L.els L.jts way head len = x.grade) := HUP.out (.inl r1)
    clear r1 fin
    go_enter Tryd.func23, Tryd.ntmps23
    go_wp2_with (go_at_call 39; refine (to_after (HCK.out _ (eal (eal (Ext.refl _) _) _))).mono ?_; rintro e w' ⟨y, rfl, rfl⟩; have y1 : w.heap.size + 1 < y.val.heap.size := (by have h := y.is.size; simp at h; omega); have y0 : w.heap.size < y.val.heap.size := (by omega); have hb1 : bE < w.heap.size + 1 + 1 := (by omega); have hb2 : bw < w.heap.size + 1 + 1 := (by omega); have hb3 : bE < w.heap.size + 1 := (by omega); have hb4 : bw < w.heap.size + 1 := (by omega); have hb5 : bE < y.val.heap.size := (by omega); have hb6 : bw < y.val.heap.size := (by omega))
    go_ret
    exact ⟨ret_int HV.out.symm, eal (eal (etr (eal (eal (Ext.refl _) _) _) y.is) _) _⟩
  · have HV : Hid (gradV L.els L.jts way head len = -x.grade) := HDN.out (fun g => by rcases g with g | g; exact r1 g; exact r2 g.1)
    clear r1 r2 fin
    go_enter Tryd.func23, Tryd.ntmps23
    go_wp2_with (go_at_call 39; refine (to_after (HCK.out _ (eal (eal (Ext.refl _) _) _))).mono ?_; rintro e w' ⟨y, rfl, rfl⟩; have y1 : w.heap.size + 1 < y.val.heap.size := (by have h := y.is.size; simp at h; omega); have y0 : w.heap.size < y.val.heap.size := (by omega); have hb1 : bE < w.heap.size + 1 + 1 := (by omega); have hb2 : bw < w.heap.size + 1 + 1 := (by omega); have hb3 : bE < w.heap.size + 1 := (by omega); have hb4 : bw < w.heap.size + 1 := (by omega); have hb5 : bE < y.val.heap.size := (by omega); have hb6 : bw < y.val.heap.size := (by omega))
    go_ret
    exact ⟨ret_int HV.out.symm, eal (eal (etr (eal (eal (Ext.refl _) _) _) y.is) _) _⟩
  · have HV : Hid (gradV L.els L.jts way head len = x.grade) := HUP.out (.inr ⟨r1, r2⟩)
    clear r1 r2 fin
    go_enter Tryd.func23, Tryd.ntmps23
    go_wp2_with (go_at_call 39; refine (to_after (HCK.out _ (eal (eal (Ext.refl _) _) _))).mono ?_; rintro e w' ⟨y, rfl, rfl⟩; have y1 : w.heap.size + 1 < y.val.heap.size := (by have h := y.is.size; simp at h; omega); have y0 : w.heap.size < y.val.heap.size := (by omega); have hb1 : bE < w.heap.size + 1 + 1 := (by omega); have hb2 : bw < w.heap.size + 1 + 1 := (by omega); have hb3 : bE < w.heap.size + 1 := (by omega); have hb4 : bw < w.heap.size + 1 := (by omega); have hb5 : bE < y.val.heap.size := (by omega); have hb6 : bw < y.val.heap.size := (by omega))
    go_ret
    exact ⟨ret_int HV.out.symm, eal (eal (etr (eal (eal (Ext.refl _) _) _) y.is) _) _⟩
  · have HV : Hid (gradV L.els L.jts way head len = -x.grade) := HDN.out (fun g => by rcases g with g | g; exact r1 g; exact r2 g.2)
    clear r1 r2 fin
    go_enter Tryd.func23, Tryd.ntmps23
    go_wp2_with (go_at_call 39; refine (to_after (HCK.out _ (eal (eal (Ext.refl _) _) _))).mono ?_; rintro e w' ⟨y, rfl, rfl⟩; have y1 : w.heap.size + 1 < y.val.heap.size := (by have h := y.is.size; simp at h; omega); have y0 : w.heap.size < y.val.heap.size := (by omega); have hb1 : bE < w.heap.size + 1 + 1 := (by omega); have hb2 : bw < w.heap.size + 1 + 1 := (by omega); have hb3 : bE < w.heap.size + 1 := (by omega); have hb4 : bw < w.heap.size + 1 := (by omega); have hb5 : bE < y.val.heap.size := (by omega); have hb6 : bw < y.val.heap.size := (by omega))
    go_ret
    exact ⟨ret_int HV.out.symm, eal (eal (etr (eal (eal (Ext.refl _) _) _) y.is) _) _⟩
theorem free_any (T : Tr) (v want : Int) (w : World) (hT : Sg.TrOk T) (hv : 0 ≤ v ∧ v ≤ 10000) : Calls Tryd.prog 47 #[.agg #[.int .i64 T.id, .string T.name, .int .i64 T.len, .int .i64 T.speed, .int .i64 T.accel, .int .i64 T.service, .int .i64 T.emergency, .int .i64 T.delay, .int .i64 T.cons, .int .i64 T.rate], .int .i64 v, .int .i64 want] w fun e w' => e = .returned (.int .i64 (freeV T v want)) ∧ Below w.heap.size w w' := by
  have h1 := hT.accel
  have h2 := hT.service
  have n1 : IntKind.i64.wrap (v + T.accel) = v + T.accel := IntWalk.i64_in _ (by omega)
  have n2 : IntKind.i64.wrap (v - T.service) = v - T.service := IntWalk.i64_in _ (by omega)
  have HF : Hid (∀ r : Int, (v < want → r = min (min (v + T.accel) want) T.speed) → (¬ v < want → r = max (max 0 want) (v - T.service)) → r = freeV T v want) := fun r a b => by
    unfold freeV; split
    · exact a ‹_›
    · exact b ‹_›
  clear hT
  by_cases q : v < want
  · have q1 : decide (v < want) = true := decide_eq_true q
    go_enter Tryd.func47, Tryd.ntmps47
    go_wp2
    all_goals go_ret
    all_goals exact ⟨ret_int (HF.out _ (fun _ => by omega) (fun h => by omega)), eal (Ext.refl _) _⟩
  · have q1 : decide (v < want) = false := decide_eq_false q
    go_enter Tryd.func47, Tryd.ntmps47
    go_wp2
    all_goals go_ret
    all_goals exact ⟨ret_int (HF.out _ (fun h => by omega) (fun _ => by omega)), eal (Ext.refl _) _⟩
theorem good_any (L : Lay) (A : Option Addr) (way : List Stp) (c : Nat) (head len speed x br : Int) (C : Cu) (B : Option Addr) (cb : Nat) (K : Option Addr) (ck : Nat) (w : World) (hL : LayOk w L) (hT : Tabs w) (hE : ElsOk L.els) (hr : Rd w A 3 Stc way) (hm : way.length ≤ 200) (hc : way.length ≤ c) (hn : C.T.name.size ≤ maxLen) : Calls Tryd.prog 45 #[.agg #[.string L.name, .slice L.aS L.secs.length L.cS, .slice L.aE L.els.length L.cE, .slice L.aJ L.jts.length L.cJ, .slice L.aG L.sgs.length L.cG, .slice L.aB L.bals.length L.cB], .agg #[.slice A way.length c, .int .i64 head, .int .i64 len, .int .i64 speed, .int .i64 x, .int .i64 br, .int .i64 C.T.id, .string C.T.name, .int .i64 C.T.len, .int .i64 C.T.speed, .int .i64 C.T.accel, .int .i64 C.T.service, .int .i64 C.T.emergency, .int .i64 C.T.delay, .int .i64 C.T.cons, .int .i64 C.T.rate, .int .i64 C.mode, .int .i64 C.brake, .int .i64 C.next, .int .i64 C.emin, .int .i64 C.emax, .int .i64 C.espeed, .int .i64 C.seq, .int .i64 C.en, .slice B C.p.length cb, .slice K C.k.length ck, .int .i64 C.peer, .int .i64 C.out, .int .i64 C.inn, .int .i64 C.heard, .bool C.known, .int .i64 C.since]] w fun e w' => e = .returned (.bool (goodB L.els L.jts C.T way head len speed x br)) ∧ Below w.heap.size w w' := by
  have HL := Lib.hid hL
  have HE := Lib.hid hE
  have HR := Lib.hid hr
  have HC := Lib.hid hc
  have HM := Lib.hid hm
  have HT := Lib.hid hT
  obtain ⟨cv, hcv⟩ : ∃ cv, cv = chkM L.els L.jts way head len := ⟨_, rfl⟩
  obtain ⟨tv, htv⟩ : ∃ tv, tv = Sg.chkE C.T := ⟨_, rfl⟩
  have HCV := Lib.hid hcv
  have HTV := Lib.hid htv
  have HCK : Hid (∀ w' : World, Ext w w' → Calls Tryd.prog 24 #[.agg #[.string L.name, .slice L.aS L.secs.length L.cS, .slice L.aE L.els.length L.cE, .slice L.aJ L.jts.length L.cJ, .slice L.aG L.sgs.length L.cG, .slice L.aB L.bals.length L.cB], .agg #[.slice A way.length c, .int .i64 head, .int .i64 len]] w' fun e w2 => e = .returned (.int .i64 cv) ∧ Below w'.heap.size w' w2) := fun w' h1 => by
    have := bchk_any L A way c head len w' (HL.out.keep h1) (HT.out.keep h1) HE.out (HR.out.keep h1) HM.out HC.out
    rw [← HCV.out] at this; exact this
  have HTK : Hid (∀ w' : World, Calls Tryd.prog 74 #[.agg #[.int .i64 C.T.id, .string C.T.name, .int .i64 C.T.len, .int .i64 C.T.speed, .int .i64 C.T.accel, .int .i64 C.T.service, .int .i64 C.T.emergency, .int .i64 C.T.delay, .int .i64 C.T.cons, .int .i64 C.T.rate]] w' fun e w2 => e = .returned (.int .i64 tv) ∧ Below w'.heap.size w' w2) := fun w' => by
    have := tcheck_any C.T w' hn
    rw [← HTV.out] at this; exact this
  have HNO : Hid (¬ GoodU L.els L.jts C.T way head len speed x br → goodB L.els L.jts C.T way head len speed x br = false) := fun h => goodB_false.2 h
  clear hL hE hr hc hm hn hT
  have HOW : Hid (Own ((w.alloc (.cells #[.string L.name, .slice L.aS L.secs.length L.cS, .slice L.aE L.els.length L.cE, .slice L.aJ L.jts.length L.cJ, .slice L.aG L.sgs.length L.cG, .slice L.aB L.bals.length L.cB] 28)).alloc (.cells #[.slice A way.length c, .int .i64 head, .int .i64 len, .int .i64 speed, .int .i64 x, .int .i64 br, .int .i64 C.T.id, .string C.T.name, .int .i64 C.T.len, .int .i64 C.T.speed, .int .i64 C.T.accel, .int .i64 C.T.service, .int .i64 C.T.emergency, .int .i64 C.T.delay, .int .i64 C.T.cons, .int .i64 C.T.rate, .int .i64 C.mode, .int .i64 C.brake, .int .i64 C.next, .int .i64 C.emin, .int .i64 C.emax, .int .i64 C.espeed, .int .i64 C.seq, .int .i64 C.en, .slice B C.p.length cb, .slice K C.k.length ck, .int .i64 C.peer, .int .i64 C.out, .int .i64 C.inn, .int .i64 C.heard, .bool C.known, .int .i64 C.since] 49)) (w.heap.size + 1) [.slice A way.length c, .int .i64 head, .int .i64 len, .int .i64 speed, .int .i64 x, .int .i64 br, .int .i64 C.T.id, .string C.T.name, .int .i64 C.T.len, .int .i64 C.T.speed, .int .i64 C.T.accel, .int .i64 C.T.service, .int .i64 C.T.emergency, .int .i64 C.T.delay, .int .i64 C.T.cons, .int .i64 C.T.rate, .int .i64 C.mode, .int .i64 C.brake, .int .i64 C.next, .int .i64 C.emin, .int .i64 C.emax, .int .i64 C.espeed, .int .i64 C.seq, .int .i64 C.en, .slice B C.p.length cb, .slice K C.k.length ck, .int .i64 C.peer, .int .i64 C.out, .int .i64 C.inn, .int .i64 C.heard, .bool C.known, .int .i64 C.since]) := Own.new (by simp)
  by_cases k0 : cv = 0
  case neg =>
    have HV : Hid (goodB L.els L.jts C.T way head len speed x br = false) := HNO.out (fun h => k0 (HCV.out.trans h.body))
    have q0 : (cv == 0) = false := by simpa using k0
    clear hcv htv k0
    go_enter Tryd.func45, Tryd.ntmps45
    go_wp2_with (first | (go_at_call 24; refine (to_after (HCK.out _ (eal (eal (Ext.refl _) _) _))).mono ?_; rintro e w' ⟨y, rfl, rfl⟩; have y1 : w.heap.size + 1 < y.val.heap.size := (by have h := y.is.size; simp at h; omega); have HOY := Lib.hid (HOW.out.keep y.is)) | (go_at_call 74; refine (to_after (HTK.out _)).mono ?_; rintro e w' ⟨z, rfl, rfl⟩; have z1 := lt_keep y1 z.is) | (refine wp_ldG 35 [.int .i64 C.T.id, .string C.T.name, .int .i64 C.T.len, .int .i64 C.T.speed, .int .i64 C.T.accel, .int .i64 C.T.service, .int .i64 C.T.emergency, .int .i64 C.T.delay, .int .i64 C.T.cons, .int .i64 C.T.rate] rfl rfl rfl HOY.out.cells Tryd.underlying35 szTr rfl ?_))
    go_ret
    exact ⟨ret_bool HV.out.symm, etr (eal (eal (Ext.refl _) _) _) y.is⟩
  have q0 : (cv == 0) = true := by simpa using k0
  by_cases k1 : tv = 0
  case neg =>
    have HV : Hid (goodB L.els L.jts C.T way head len speed x br = false) := HNO.out (fun h => k1 (HTV.out.trans h.tr))
    have q1 : (tv == 0) = false := by simpa using k1
    clear hcv htv k0 k1
    go_enter Tryd.func45, Tryd.ntmps45
    go_wp2_with (first | (go_at_call 24; refine (to_after (HCK.out _ (eal (eal (Ext.refl _) _) _))).mono ?_; rintro e w' ⟨y, rfl, rfl⟩; have y1 : w.heap.size + 1 < y.val.heap.size := (by have h := y.is.size; simp at h; omega); have HOY := Lib.hid (HOW.out.keep y.is)) | (go_at_call 74; refine (to_after (HTK.out _)).mono ?_; rintro e w' ⟨z, rfl, rfl⟩; have z1 := lt_keep y1 z.is) | (refine wp_ldG 35 [.int .i64 C.T.id, .string C.T.name, .int .i64 C.T.len, .int .i64 C.T.speed, .int .i64 C.T.accel, .int .i64 C.T.service, .int .i64 C.T.emergency, .int .i64 C.T.delay, .int .i64 C.T.cons, .int .i64 C.T.rate] rfl rfl rfl HOY.out.cells Tryd.underlying35 szTr rfl ?_))
    go_ret
    exact ⟨ret_bool HV.out.symm, etr (etr (eal (eal (Ext.refl _) _) _) y.is) z.is⟩
  have q1 : (tv == 0) = true := by simpa using k1
  by_cases k2 : 0 ≤ speed
  case neg =>
    have HV : Hid (goodB L.els L.jts C.T way head len speed x br = false) := HNO.out (fun h => k2 (h.speed.1))
    have q2 : decide (0 ≤ speed) = false := decide_eq_false k2
    clear hcv htv k0 k1 k2
    go_enter Tryd.func45, Tryd.ntmps45
    go_wp2_with (first | (go_at_call 24; refine (to_after (HCK.out _ (eal (eal (Ext.refl _) _) _))).mono ?_; rintro e w' ⟨y, rfl, rfl⟩; have y1 : w.heap.size + 1 < y.val.heap.size := (by have h := y.is.size; simp at h; omega); have HOY := Lib.hid (HOW.out.keep y.is)) | (go_at_call 74; refine (to_after (HTK.out _)).mono ?_; rintro e w' ⟨z, rfl, rfl⟩; have z1 := lt_keep y1 z.is) | (refine wp_ldG 35 [.int .i64 C.T.id, .string C.T.name, .int .i64 C.T.len, .int .i64 C.T.speed, .int .i64 C.T.accel, .int .i64 C.T.service, .int .i64 C.T.emergency, .int .i64 C.T.delay, .int .i64 C.T.cons, .int .i64 C.T.rate] rfl rfl rfl HOY.out.cells Tryd.underlying35 szTr rfl ?_))
    go_ret
    exact ⟨ret_bool HV.out.symm, etr (etr (eal (eal (Ext.refl _) _) _) y.is) z.is⟩
  have q2 : decide (0 ≤ speed) = true := decide_eq_true k2
  by_cases k3 : speed ≤ 10000
  case neg =>
    have HV : Hid (goodB L.els L.jts C.T way head len speed x br = false) := HNO.out (fun h => k3 (h.speed.2))
    have q3 : decide (speed ≤ 10000) = false := decide_eq_false k3
    clear hcv htv k0 k1 k2 k3
    go_enter Tryd.func45, Tryd.ntmps45
    go_wp2_with (first | (go_at_call 24; refine (to_after (HCK.out _ (eal (eal (Ext.refl _) _) _))).mono ?_; rintro e w' ⟨y, rfl, rfl⟩; have y1 : w.heap.size + 1 < y.val.heap.size := (by have h := y.is.size; simp at h; omega); have HOY := Lib.hid (HOW.out.keep y.is)) | (go_at_call 74; refine (to_after (HTK.out _)).mono ?_; rintro e w' ⟨z, rfl, rfl⟩; have z1 := lt_keep y1 z.is) | (refine wp_ldG 35 [.int .i64 C.T.id, .string C.T.name, .int .i64 C.T.len, .int .i64 C.T.speed, .int .i64 C.T.accel, .int .i64 C.T.service, .int .i64 C.T.emergency, .int .i64 C.T.delay, .int .i64 C.T.cons, .int .i64 C.T.rate] rfl rfl rfl HOY.out.cells Tryd.underlying35 szTr rfl ?_))
    go_ret
    exact ⟨ret_bool HV.out.symm, etr (etr (eal (eal (Ext.refl _) _) _) y.is) z.is⟩
  have q3 : decide (speed ≤ 10000) = true := decide_eq_true k3
  by_cases k4 : -1073741824 ≤ x
  case neg =>
    have HV : Hid (goodB L.els L.jts C.T way head len speed x br = false) := HNO.out (fun h => k4 (h.x.1))
    have q4 : decide (-1073741824 ≤ x) = false := decide_eq_false k4
    clear hcv htv k0 k1 k2 k3 k4
    go_enter Tryd.func45, Tryd.ntmps45
    go_wp2_with (first | (go_at_call 24; refine (to_after (HCK.out _ (eal (eal (Ext.refl _) _) _))).mono ?_; rintro e w' ⟨y, rfl, rfl⟩; have y1 : w.heap.size + 1 < y.val.heap.size := (by have h := y.is.size; simp at h; omega); have HOY := Lib.hid (HOW.out.keep y.is)) | (go_at_call 74; refine (to_after (HTK.out _)).mono ?_; rintro e w' ⟨z, rfl, rfl⟩; have z1 := lt_keep y1 z.is) | (refine wp_ldG 35 [.int .i64 C.T.id, .string C.T.name, .int .i64 C.T.len, .int .i64 C.T.speed, .int .i64 C.T.accel, .int .i64 C.T.service, .int .i64 C.T.emergency, .int .i64 C.T.delay, .int .i64 C.T.cons, .int .i64 C.T.rate] rfl rfl rfl HOY.out.cells Tryd.underlying35 szTr rfl ?_))
    go_ret
    exact ⟨ret_bool HV.out.symm, etr (etr (eal (eal (Ext.refl _) _) _) y.is) z.is⟩
  have q4 : decide (-1073741824 ≤ x) = true := decide_eq_true k4
  by_cases k5 : x ≤ 1073741824
  case neg =>
    have HV : Hid (goodB L.els L.jts C.T way head len speed x br = false) := HNO.out (fun h => k5 (h.x.2))
    have q5 : decide (x ≤ 1073741824) = false := decide_eq_false k5
    clear hcv htv k0 k1 k2 k3 k4 k5
    go_enter Tryd.func45, Tryd.ntmps45
    go_wp2_with (first | (go_at_call 24; refine (to_after (HCK.out _ (eal (eal (Ext.refl _) _) _))).mono ?_; rintro e w' ⟨y, rfl, rfl⟩; have y1 : w.heap.size + 1 < y.val.heap.size := (by have h := y.is.size; simp at h; omega); have HOY := Lib.hid (HOW.out.keep y.is)) | (go_at_call 74; refine (to_after (HTK.out _)).mono ?_; rintro e w' ⟨z, rfl, rfl⟩; have z1 := lt_keep y1 z.is) | (refine wp_ldG 35 [.int .i64 C.T.id, .string C.T.name, .int .i64 C.T.len, .int .i64 C.T.speed, .int .i64 C.T.accel, .int .i64 C.T.service, .int .i64 C.T.emergency, .int .i64 C.T.delay, .int .i64 C.T.cons, .int .i64 C.T.rate] rfl rfl rfl HOY.out.cells Tryd.underlying35 szTr rfl ?_))
    go_ret
    exact ⟨ret_bool HV.out.symm, etr (etr (eal (eal (Ext.refl _) _) _) y.is) z.is⟩
  have q5 : decide (x ≤ 1073741824) = true := decide_eq_true k5
  by_cases k6 : 0 ≤ br
  case neg =>
    have HV : Hid (goodB L.els L.jts C.T way head len speed x br = false) := HNO.out (fun h => k6 (h.braking.1))
    have q6 : decide (0 ≤ br) = false := decide_eq_false k6
    clear hcv htv k0 k1 k2 k3 k4 k5 k6
    go_enter Tryd.func45, Tryd.ntmps45
    go_wp2_with (first | (go_at_call 24; refine (to_after (HCK.out _ (eal (eal (Ext.refl _) _) _))).mono ?_; rintro e w' ⟨y, rfl, rfl⟩; have y1 : w.heap.size + 1 < y.val.heap.size := (by have h := y.is.size; simp at h; omega); have HOY := Lib.hid (HOW.out.keep y.is)) | (go_at_call 74; refine (to_after (HTK.out _)).mono ?_; rintro e w' ⟨z, rfl, rfl⟩; have z1 := lt_keep y1 z.is) | (refine wp_ldG 35 [.int .i64 C.T.id, .string C.T.name, .int .i64 C.T.len, .int .i64 C.T.speed, .int .i64 C.T.accel, .int .i64 C.T.service, .int .i64 C.T.emergency, .int .i64 C.T.delay, .int .i64 C.T.cons, .int .i64 C.T.rate] rfl rfl rfl HOY.out.cells Tryd.underlying35 szTr rfl ?_))
    go_ret
    exact ⟨ret_bool HV.out.symm, etr (etr (eal (eal (Ext.refl _) _) _) y.is) z.is⟩
  have q6 : decide (0 ≤ br) = true := decide_eq_true k6
  by_cases k7 : br ≤ 1073741824
  case neg =>
    have HV : Hid (goodB L.els L.jts C.T way head len speed x br = false) := HNO.out (fun h => k7 (h.braking.2))
    have q7 : decide (br ≤ 1073741824) = false := decide_eq_false k7
    clear hcv htv k0 k1 k2 k3 k4 k5 k6 k7
    go_enter Tryd.func45, Tryd.ntmps45
    go_wp2_with (first | (go_at_call 24; refine (to_after (HCK.out _ (eal (eal (Ext.refl _) _) _))).mono ?_; rintro e w' ⟨y, rfl, rfl⟩; have y1 : w.heap.size + 1 < y.val.heap.size := (by have h := y.is.size; simp at h; omega); have HOY := Lib.hid (HOW.out.keep y.is)) | (go_at_call 74; refine (to_after (HTK.out _)).mono ?_; rintro e w' ⟨z, rfl, rfl⟩; have z1 := lt_keep y1 z.is) | (refine wp_ldG 35 [.int .i64 C.T.id, .string C.T.name, .int .i64 C.T.len, .int .i64 C.T.speed, .int .i64 C.T.accel, .int .i64 C.T.service, .int .i64 C.T.emergency, .int .i64 C.T.delay, .int .i64 C.T.cons, .int .i64 C.T.rate] rfl rfl rfl HOY.out.cells Tryd.underlying35 szTr rfl ?_))
    go_ret
    exact ⟨ret_bool HV.out.symm, etr (etr (eal (eal (Ext.refl _) _) _) y.is) z.is⟩
  have q7 : decide (br ≤ 1073741824) = true := decide_eq_true k7
  have HV : Hid (goodB L.els L.jts C.T way head len speed x br = true) := goodB_true.2 ⟨by rw [← hcv]; exact k0, by rw [← htv]; exact k1, ⟨k2, k3⟩, ⟨k4, k5⟩, ⟨k6, k7⟩⟩
  clear hcv htv k0 k1 k2 k3 k4 k5 k6 k7
  go_enter Tryd.func45, Tryd.ntmps45
  go_wp2_with (first | (go_at_call 24; refine (to_after (HCK.out _ (eal (eal (Ext.refl _) _) _))).mono ?_; rintro e w' ⟨y, rfl, rfl⟩; have y1 : w.heap.size + 1 < y.val.heap.size := (by have h := y.is.size; simp at h; omega); have HOY := Lib.hid (HOW.out.keep y.is)) | (go_at_call 74; refine (to_after (HTK.out _)).mono ?_; rintro e w' ⟨z, rfl, rfl⟩; have z1 := lt_keep y1 z.is) | (refine wp_ldG 35 [.int .i64 C.T.id, .string C.T.name, .int .i64 C.T.len, .int .i64 C.T.speed, .int .i64 C.T.accel, .int .i64 C.T.service, .int .i64 C.T.emergency, .int .i64 C.T.delay, .int .i64 C.T.cons, .int .i64 C.T.rate] rfl rfl rfl HOY.out.cells Tryd.underlying35 szTr rfl ?_))
  go_ret
  exact ⟨ret_bool HV.out.symm, etr (etr (eal (eal (Ext.refl _) _) _) y.is) z.is⟩
theorem rgood_any (L : Lay) (A : Option Addr) (way : List Stp) (c : Nat) (head len speed x br : Int) (C : Cu) (B : Option Addr) (cb : Nat) (K : Option Addr) (ck : Nat) (w : World) (hL : LayOk w L) (hE : ElsOk L.els) (hr : Rd w A 3 Stc way) (hm : way.length ≤ 200) (hc : way.length ≤ c) (hn : C.T.name.size ≤ maxLen) : Calls Tryd.prog 12 #[.agg #[.string L.name, .slice L.aS L.secs.length L.cS, .slice L.aE L.els.length L.cE, .slice L.aJ L.jts.length L.cJ, .slice L.aG L.sgs.length L.cG, .slice L.aB L.bals.length L.cB], .agg #[.slice A way.length c, .int .i64 head, .int .i64 len, .int .i64 speed, .int .i64 x, .int .i64 br, .int .i64 C.T.id, .string C.T.name, .int .i64 C.T.len, .int .i64 C.T.speed, .int .i64 C.T.accel, .int .i64 C.T.service, .int .i64 C.T.emergency, .int .i64 C.T.delay, .int .i64 C.T.cons, .int .i64 C.T.rate, .int .i64 C.mode, .int .i64 C.brake, .int .i64 C.next, .int .i64 C.emin, .int .i64 C.emax, .int .i64 C.espeed, .int .i64 C.seq, .int .i64 C.en, .slice B C.p.length cb, .slice K C.k.length ck, .int .i64 C.peer, .int .i64 C.out, .int .i64 C.inn, .int .i64 C.heard, .bool C.known, .int .i64 C.since]] w fun e w' => e = .returned (.bool (goodB L.els L.jts C.T way head len speed x br)) ∧ Below w.heap.size w w' := by
  have HL := Lib.hid hL
  have HE := Lib.hid hE
  have HR := Lib.hid hr
  have HC := Lib.hid hc
  have HM := Lib.hid hm
  obtain ⟨cv, hcv⟩ : ∃ cv, cv = chkM L.els L.jts way head len := ⟨_, rfl⟩
  obtain ⟨tv, htv⟩ : ∃ tv, tv = Sg.chkE C.T := ⟨_, rfl⟩
  have HCV := Lib.hid hcv
  have HTV := Lib.hid htv
  have HCK : Hid (∀ w' : World, Ext w w' → Calls Tryd.prog 39 #[.agg #[.string L.name, .slice L.aS L.secs.length L.cS, .slice L.aE L.els.length L.cE, .slice L.aJ L.jts.length L.cJ, .slice L.aG L.sgs.length L.cG, .slice L.aB L.bals.length L.cB], .agg #[.slice A way.length c, .int .i64 head, .int .i64 len]] w' fun e w2 => e = .returned (.int .i64 cv) ∧ Below w'.heap.size w' w2) := fun w' h1 => by
    have := rbchk_any L A way c head len w' (HL.out.keep h1) HE.out (HR.out.keep h1) HM.out HC.out
    rw [← HCV.out] at this; exact this
  have HTK : Hid (∀ w' : World, Calls Tryd.prog 40 #[.agg #[.int .i64 C.T.id, .string C.T.name, .int .i64 C.T.len, .int .i64 C.T.speed, .int .i64 C.T.accel, .int .i64 C.T.service, .int .i64 C.T.emergency, .int .i64 C.T.delay, .int .i64 C.T.cons, .int .i64 C.T.rate]] w' fun e w2 => e = .returned (.int .i64 tv) ∧ Below w'.heap.size w' w2) := fun w' => by
    have := rcheck_any C.T w' hn
    rw [← HTV.out] at this; exact this
  have HNO : Hid (¬ GoodU L.els L.jts C.T way head len speed x br → goodB L.els L.jts C.T way head len speed x br = false) := fun h => goodB_false.2 h
  clear hL hE hr hc hm hn 
  have HOW : Hid (Own ((w.alloc (.cells #[.string L.name, .slice L.aS L.secs.length L.cS, .slice L.aE L.els.length L.cE, .slice L.aJ L.jts.length L.cJ, .slice L.aG L.sgs.length L.cG, .slice L.aB L.bals.length L.cB] 28)).alloc (.cells #[.slice A way.length c, .int .i64 head, .int .i64 len, .int .i64 speed, .int .i64 x, .int .i64 br, .int .i64 C.T.id, .string C.T.name, .int .i64 C.T.len, .int .i64 C.T.speed, .int .i64 C.T.accel, .int .i64 C.T.service, .int .i64 C.T.emergency, .int .i64 C.T.delay, .int .i64 C.T.cons, .int .i64 C.T.rate, .int .i64 C.mode, .int .i64 C.brake, .int .i64 C.next, .int .i64 C.emin, .int .i64 C.emax, .int .i64 C.espeed, .int .i64 C.seq, .int .i64 C.en, .slice B C.p.length cb, .slice K C.k.length ck, .int .i64 C.peer, .int .i64 C.out, .int .i64 C.inn, .int .i64 C.heard, .bool C.known, .int .i64 C.since] 49)) (w.heap.size + 1) [.slice A way.length c, .int .i64 head, .int .i64 len, .int .i64 speed, .int .i64 x, .int .i64 br, .int .i64 C.T.id, .string C.T.name, .int .i64 C.T.len, .int .i64 C.T.speed, .int .i64 C.T.accel, .int .i64 C.T.service, .int .i64 C.T.emergency, .int .i64 C.T.delay, .int .i64 C.T.cons, .int .i64 C.T.rate, .int .i64 C.mode, .int .i64 C.brake, .int .i64 C.next, .int .i64 C.emin, .int .i64 C.emax, .int .i64 C.espeed, .int .i64 C.seq, .int .i64 C.en, .slice B C.p.length cb, .slice K C.k.length ck, .int .i64 C.peer, .int .i64 C.out, .int .i64 C.inn, .int .i64 C.heard, .bool C.known, .int .i64 C.since]) := Own.new (by simp)
  by_cases k0 : cv = 0
  case neg =>
    have HV : Hid (goodB L.els L.jts C.T way head len speed x br = false) := HNO.out (fun h => k0 (HCV.out.trans h.body))
    have q0 : (cv == 0) = false := by simpa using k0
    clear hcv htv k0
    go_enter Tryd.func12, Tryd.ntmps12
    go_wp2_with (first | (go_at_call 39; refine (to_after (HCK.out _ (eal (eal (Ext.refl _) _) _))).mono ?_; rintro e w' ⟨y, rfl, rfl⟩; have y1 : w.heap.size + 1 < y.val.heap.size := (by have h := y.is.size; simp at h; omega); have HOY := Lib.hid (HOW.out.keep y.is)) | (go_at_call 40; refine (to_after (HTK.out _)).mono ?_; rintro e w' ⟨z, rfl, rfl⟩; have z1 := lt_keep y1 z.is) | (refine wp_ldG 35 [.int .i64 C.T.id, .string C.T.name, .int .i64 C.T.len, .int .i64 C.T.speed, .int .i64 C.T.accel, .int .i64 C.T.service, .int .i64 C.T.emergency, .int .i64 C.T.delay, .int .i64 C.T.cons, .int .i64 C.T.rate] rfl rfl rfl HOY.out.cells Tryd.underlying35 szTr rfl ?_))
    go_ret
    exact ⟨ret_bool HV.out.symm, etr (eal (eal (Ext.refl _) _) _) y.is⟩
  have q0 : (cv == 0) = true := by simpa using k0
  by_cases k1 : tv = 0
  case neg =>
    have HV : Hid (goodB L.els L.jts C.T way head len speed x br = false) := HNO.out (fun h => k1 (HTV.out.trans h.tr))
    have q1 : (tv == 0) = false := by simpa using k1
    clear hcv htv k0 k1
    go_enter Tryd.func12, Tryd.ntmps12
    go_wp2_with (first | (go_at_call 39; refine (to_after (HCK.out _ (eal (eal (Ext.refl _) _) _))).mono ?_; rintro e w' ⟨y, rfl, rfl⟩; have y1 : w.heap.size + 1 < y.val.heap.size := (by have h := y.is.size; simp at h; omega); have HOY := Lib.hid (HOW.out.keep y.is)) | (go_at_call 40; refine (to_after (HTK.out _)).mono ?_; rintro e w' ⟨z, rfl, rfl⟩; have z1 := lt_keep y1 z.is) | (refine wp_ldG 35 [.int .i64 C.T.id, .string C.T.name, .int .i64 C.T.len, .int .i64 C.T.speed, .int .i64 C.T.accel, .int .i64 C.T.service, .int .i64 C.T.emergency, .int .i64 C.T.delay, .int .i64 C.T.cons, .int .i64 C.T.rate] rfl rfl rfl HOY.out.cells Tryd.underlying35 szTr rfl ?_))
    go_ret
    exact ⟨ret_bool HV.out.symm, etr (etr (eal (eal (Ext.refl _) _) _) y.is) z.is⟩
  have q1 : (tv == 0) = true := by simpa using k1
  by_cases k2 : 0 ≤ speed
  case neg =>
    have HV : Hid (goodB L.els L.jts C.T way head len speed x br = false) := HNO.out (fun h => k2 (h.speed.1))
    have q2 : decide (0 ≤ speed) = false := decide_eq_false k2
    clear hcv htv k0 k1 k2
    go_enter Tryd.func12, Tryd.ntmps12
    go_wp2_with (first | (go_at_call 39; refine (to_after (HCK.out _ (eal (eal (Ext.refl _) _) _))).mono ?_; rintro e w' ⟨y, rfl, rfl⟩; have y1 : w.heap.size + 1 < y.val.heap.size := (by have h := y.is.size; simp at h; omega); have HOY := Lib.hid (HOW.out.keep y.is)) | (go_at_call 40; refine (to_after (HTK.out _)).mono ?_; rintro e w' ⟨z, rfl, rfl⟩; have z1 := lt_keep y1 z.is) | (refine wp_ldG 35 [.int .i64 C.T.id, .string C.T.name, .int .i64 C.T.len, .int .i64 C.T.speed, .int .i64 C.T.accel, .int .i64 C.T.service, .int .i64 C.T.emergency, .int .i64 C.T.delay, .int .i64 C.T.cons, .int .i64 C.T.rate] rfl rfl rfl HOY.out.cells Tryd.underlying35 szTr rfl ?_))
    go_ret
    exact ⟨ret_bool HV.out.symm, etr (etr (eal (eal (Ext.refl _) _) _) y.is) z.is⟩
  have q2 : decide (0 ≤ speed) = true := decide_eq_true k2
  by_cases k3 : speed ≤ 10000
  case neg =>
    have HV : Hid (goodB L.els L.jts C.T way head len speed x br = false) := HNO.out (fun h => k3 (h.speed.2))
    have q3 : decide (speed ≤ 10000) = false := decide_eq_false k3
    clear hcv htv k0 k1 k2 k3
    go_enter Tryd.func12, Tryd.ntmps12
    go_wp2_with (first | (go_at_call 39; refine (to_after (HCK.out _ (eal (eal (Ext.refl _) _) _))).mono ?_; rintro e w' ⟨y, rfl, rfl⟩; have y1 : w.heap.size + 1 < y.val.heap.size := (by have h := y.is.size; simp at h; omega); have HOY := Lib.hid (HOW.out.keep y.is)) | (go_at_call 40; refine (to_after (HTK.out _)).mono ?_; rintro e w' ⟨z, rfl, rfl⟩; have z1 := lt_keep y1 z.is) | (refine wp_ldG 35 [.int .i64 C.T.id, .string C.T.name, .int .i64 C.T.len, .int .i64 C.T.speed, .int .i64 C.T.accel, .int .i64 C.T.service, .int .i64 C.T.emergency, .int .i64 C.T.delay, .int .i64 C.T.cons, .int .i64 C.T.rate] rfl rfl rfl HOY.out.cells Tryd.underlying35 szTr rfl ?_))
    go_ret
    exact ⟨ret_bool HV.out.symm, etr (etr (eal (eal (Ext.refl _) _) _) y.is) z.is⟩
  have q3 : decide (speed ≤ 10000) = true := decide_eq_true k3
  by_cases k4 : -1073741824 ≤ x
  case neg =>
    have HV : Hid (goodB L.els L.jts C.T way head len speed x br = false) := HNO.out (fun h => k4 (h.x.1))
    have q4 : decide (-1073741824 ≤ x) = false := decide_eq_false k4
    clear hcv htv k0 k1 k2 k3 k4
    go_enter Tryd.func12, Tryd.ntmps12
    go_wp2_with (first | (go_at_call 39; refine (to_after (HCK.out _ (eal (eal (Ext.refl _) _) _))).mono ?_; rintro e w' ⟨y, rfl, rfl⟩; have y1 : w.heap.size + 1 < y.val.heap.size := (by have h := y.is.size; simp at h; omega); have HOY := Lib.hid (HOW.out.keep y.is)) | (go_at_call 40; refine (to_after (HTK.out _)).mono ?_; rintro e w' ⟨z, rfl, rfl⟩; have z1 := lt_keep y1 z.is) | (refine wp_ldG 35 [.int .i64 C.T.id, .string C.T.name, .int .i64 C.T.len, .int .i64 C.T.speed, .int .i64 C.T.accel, .int .i64 C.T.service, .int .i64 C.T.emergency, .int .i64 C.T.delay, .int .i64 C.T.cons, .int .i64 C.T.rate] rfl rfl rfl HOY.out.cells Tryd.underlying35 szTr rfl ?_))
    go_ret
    exact ⟨ret_bool HV.out.symm, etr (etr (eal (eal (Ext.refl _) _) _) y.is) z.is⟩
  have q4 : decide (-1073741824 ≤ x) = true := decide_eq_true k4
  by_cases k5 : x ≤ 1073741824
  case neg =>
    have HV : Hid (goodB L.els L.jts C.T way head len speed x br = false) := HNO.out (fun h => k5 (h.x.2))
    have q5 : decide (x ≤ 1073741824) = false := decide_eq_false k5
    clear hcv htv k0 k1 k2 k3 k4 k5
    go_enter Tryd.func12, Tryd.ntmps12
    go_wp2_with (first | (go_at_call 39; refine (to_after (HCK.out _ (eal (eal (Ext.refl _) _) _))).mono ?_; rintro e w' ⟨y, rfl, rfl⟩; have y1 : w.heap.size + 1 < y.val.heap.size := (by have h := y.is.size; simp at h; omega); have HOY := Lib.hid (HOW.out.keep y.is)) | (go_at_call 40; refine (to_after (HTK.out _)).mono ?_; rintro e w' ⟨z, rfl, rfl⟩; have z1 := lt_keep y1 z.is) | (refine wp_ldG 35 [.int .i64 C.T.id, .string C.T.name, .int .i64 C.T.len, .int .i64 C.T.speed, .int .i64 C.T.accel, .int .i64 C.T.service, .int .i64 C.T.emergency, .int .i64 C.T.delay, .int .i64 C.T.cons, .int .i64 C.T.rate] rfl rfl rfl HOY.out.cells Tryd.underlying35 szTr rfl ?_))
    go_ret
    exact ⟨ret_bool HV.out.symm, etr (etr (eal (eal (Ext.refl _) _) _) y.is) z.is⟩
  have q5 : decide (x ≤ 1073741824) = true := decide_eq_true k5
  by_cases k6 : 0 ≤ br
  case neg =>
    have HV : Hid (goodB L.els L.jts C.T way head len speed x br = false) := HNO.out (fun h => k6 (h.braking.1))
    have q6 : decide (0 ≤ br) = false := decide_eq_false k6
    clear hcv htv k0 k1 k2 k3 k4 k5 k6
    go_enter Tryd.func12, Tryd.ntmps12
    go_wp2_with (first | (go_at_call 39; refine (to_after (HCK.out _ (eal (eal (Ext.refl _) _) _))).mono ?_; rintro e w' ⟨y, rfl, rfl⟩; have y1 : w.heap.size + 1 < y.val.heap.size := (by have h := y.is.size; simp at h; omega); have HOY := Lib.hid (HOW.out.keep y.is)) | (go_at_call 40; refine (to_after (HTK.out _)).mono ?_; rintro e w' ⟨z, rfl, rfl⟩; have z1 := lt_keep y1 z.is) | (refine wp_ldG 35 [.int .i64 C.T.id, .string C.T.name, .int .i64 C.T.len, .int .i64 C.T.speed, .int .i64 C.T.accel, .int .i64 C.T.service, .int .i64 C.T.emergency, .int .i64 C.T.delay, .int .i64 C.T.cons, .int .i64 C.T.rate] rfl rfl rfl HOY.out.cells Tryd.underlying35 szTr rfl ?_))
    go_ret
    exact ⟨ret_bool HV.out.symm, etr (etr (eal (eal (Ext.refl _) _) _) y.is) z.is⟩
  have q6 : decide (0 ≤ br) = true := decide_eq_true k6
  by_cases k7 : br ≤ 1073741824
  case neg =>
    have HV : Hid (goodB L.els L.jts C.T way head len speed x br = false) := HNO.out (fun h => k7 (h.braking.2))
    have q7 : decide (br ≤ 1073741824) = false := decide_eq_false k7
    clear hcv htv k0 k1 k2 k3 k4 k5 k6 k7
    go_enter Tryd.func12, Tryd.ntmps12
    go_wp2_with (first | (go_at_call 39; refine (to_after (HCK.out _ (eal (eal (Ext.refl _) _) _))).mono ?_; rintro e w' ⟨y, rfl, rfl⟩; have y1 : w.heap.size + 1 < y.val.heap.size := (by have h := y.is.size; simp at h; omega); have HOY := Lib.hid (HOW.out.keep y.is)) | (go_at_call 40; refine (to_after (HTK.out _)).mono ?_; rintro e w' ⟨z, rfl, rfl⟩; have z1 := lt_keep y1 z.is) | (refine wp_ldG 35 [.int .i64 C.T.id, .string C.T.name, .int .i64 C.T.len, .int .i64 C.T.speed, .int .i64 C.T.accel, .int .i64 C.T.service, .int .i64 C.T.emergency, .int .i64 C.T.delay, .int .i64 C.T.cons, .int .i64 C.T.rate] rfl rfl rfl HOY.out.cells Tryd.underlying35 szTr rfl ?_))
    go_ret
    exact ⟨ret_bool HV.out.symm, etr (etr (eal (eal (Ext.refl _) _) _) y.is) z.is⟩
  have q7 : decide (br ≤ 1073741824) = true := decide_eq_true k7
  have HV : Hid (goodB L.els L.jts C.T way head len speed x br = true) := goodB_true.2 ⟨by rw [← hcv]; exact k0, by rw [← htv]; exact k1, ⟨k2, k3⟩, ⟨k4, k5⟩, ⟨k6, k7⟩⟩
  clear hcv htv k0 k1 k2 k3 k4 k5 k6 k7
  go_enter Tryd.func12, Tryd.ntmps12
  go_wp2_with (first | (go_at_call 39; refine (to_after (HCK.out _ (eal (eal (Ext.refl _) _) _))).mono ?_; rintro e w' ⟨y, rfl, rfl⟩; have y1 : w.heap.size + 1 < y.val.heap.size := (by have h := y.is.size; simp at h; omega); have HOY := Lib.hid (HOW.out.keep y.is)) | (go_at_call 40; refine (to_after (HTK.out _)).mono ?_; rintro e w' ⟨z, rfl, rfl⟩; have z1 := lt_keep y1 z.is) | (refine wp_ldG 35 [.int .i64 C.T.id, .string C.T.name, .int .i64 C.T.len, .int .i64 C.T.speed, .int .i64 C.T.accel, .int .i64 C.T.service, .int .i64 C.T.emergency, .int .i64 C.T.delay, .int .i64 C.T.cons, .int .i64 C.T.rate] rfl rfl rfl HOY.out.cells Tryd.underlying35 szTr rfl ?_))
  go_ret
  exact ⟨ret_bool HV.out.symm, etr (etr (eal (eal (Ext.refl _) _) _) y.is) z.is⟩
end
end Go.Proofs.YticonpjkcocgeaaDoor
