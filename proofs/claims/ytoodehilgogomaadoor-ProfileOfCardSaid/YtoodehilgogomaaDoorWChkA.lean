/- Walks of signallingref07: right, exists, Members; Sides. What matters of Check: that it returns, and what it says of the elements and the joints. -/
import Derived.Test.YtoodehilgogomaaDoorLayK
set_option linter.unusedVariables false
set_option linter.unusedSimpArgs false
set_option maxRecDepth 100000
namespace Go.Proofs.YtoodehilgogomaaDoor
open Go.ChangeShapes Go.WideShapes Go.ChangeAt Go.RowKit
open Sg

/-- It returns some Bool, of which P holds. -/
def RetB (P : Bool → Prop) (w : World) (e : Ending) (w' : World) : Prop := ∃ b, e = .returned (.bool b) ∧ P b ∧ Below w.heap.size w w'
/-- It returns some number, of which P holds. -/
def RetE (P : Int → Prop) (w : World) (e : Ending) (w' : World) : Prop := ∃ n, e = .returned (.int .i64 n) ∧ P n ∧ Below w.heap.size w w'
theorem RetB.mk {P : Bool → Prop} {w w' : World} {b : Bool} (h : P b) (hb : Below w.heap.size w w') : RetB P w (.returned (.bool b)) w' := ⟨b, rfl, h, hb⟩
theorem RetE.mk {P : Int → Prop} {w w' : World} {n : Int} (h : P n) (hb : Below w.heap.size w w') : RetE P w (.returned (.int .i64 n)) w' := ⟨n, rfl, h, hb⟩
def RightP (x : Elm) : Prop := 1 ≤ x.kind ∧ x.kind ≤ 3 ∧ 500 ≤ x.len ∧ x.len ≤ 1000000
set_option maxHeartbeats 8000000 in
theorem right_any (L : Lay) (x : Elm) (w : World) : Calls Tryd.prog 29 #[.agg #[.string L.name, .slice L.aS L.secs.length L.cS, .slice L.aE L.els.length L.cE, .slice L.aJ L.jts.length L.cJ, .slice L.aG L.sgs.length L.cG, .slice L.aB L.bals.length L.cB], .agg #[.string x.name, .int .i64 x.kind, .int .i64 x.len, .int .i64 x.grade, .int .i64 x.speed, .int .i64 x.slow, .int .i64 x.sec]] w (RetB (fun b => b = true → RightP x) w) := by
  go_enter Tryd.func29, Tryd.ntmps29
  go_wp2
  all_goals go_ret
  all_goals refine RetB.mk (fun hb => ?_) (eal (eal (Ext.refl _) _) _)
  all_goals first | (exact ⟨by omega, by omega, by omega, by omega⟩) | (cases hb)
def sidesV (k : Int) : Int := if k = 1 then 2 else if k = 2 then 3 else if k = 3 then 4 else 0
theorem sides_any (k : Int) (w : World) : Calls Tryd.prog 40 #[.int .i64 k] w fun e w' => e = .returned (.int .i64 (sidesV k)) ∧ Below w.heap.size w w' := by
  by_cases k1 : k = 1
  · subst k1
    go_enter Tryd.func40, Tryd.ntmps40
    go_wp2
    go_ret
    exact ⟨rfl, Ext.refl _⟩
  by_cases k2 : k = 2
  · subst k2
    clear k1
    go_enter Tryd.func40, Tryd.ntmps40
    go_wp2
    go_ret
    exact ⟨rfl, Ext.refl _⟩
  by_cases k3 : k = 3
  · subst k3
    clear k1 k2
    go_enter Tryd.func40, Tryd.ntmps40
    go_wp2
    go_ret
    exact ⟨rfl, Ext.refl _⟩
  · have HV : sidesV k = 0 := by unfold sidesV; rw [if_neg k1, if_neg k2, if_neg k3]
    have b1 : (k == 1) = false := by simpa using k1
    have b2 : (k == 2) = false := by simpa using k2
    have b3 : (k == 3) = false := by simpa using k3
    rw [HV]
    clear k1 k2 k3 HV
    go_enter Tryd.func40, Tryd.ntmps40
    go_wp2
    go_ret
    exact ⟨rfl, Ext.refl _⟩
open Classical in
noncomputable def exB (els : List Elm) (e : Sg.End) : Bool := decide (0 ≤ e.el ∧ e.el < els.length ∧ 0 ≤ e.side ∧ e.side < sidesV (elAt els e.el).kind)
theorem exB_has {els : List Elm} {e : Sg.End} (h : exB els e = true) : hasEl els e.el := by
  have := of_decide_eq_true h
  exact ⟨this.1, this.2.1⟩
set_option maxHeartbeats 8000000 in
theorem ends_exist (L : Lay) (e : Sg.End) (w : World) (hL : LayOk w L) : Calls Tryd.prog 31 #[.agg #[.string L.name, .slice L.aS L.secs.length L.cS, .slice L.aE L.els.length L.cE, .slice L.aJ L.jts.length L.cJ, .slice L.aG L.sgs.length L.cG, .slice L.aB L.bals.length L.cB], .agg #[.int .i64 e.el, .int .i64 e.side]] w fun r w' => r = .returned (.bool (exB L.els e)) ∧ Below w.heap.size w w' := by
  have HL := Lib.hid hL
  have hmE := hL.lE
  unfold maxLen at hmE
  clear hL
  by_cases k1 : e.el < 0
  · have HV : Hid (exB L.els e = false) := decide_eq_false (fun h => by omega)
    have q1 : decide (0 ≤ e.el) = false := decide_eq_false (by omega)
    clear k1
    go_enter Tryd.func31, Tryd.ntmps31
    go_wp2
    refine wp_region_after (by kernel_rfl) (by kernel_rfl) ?_
    repeat (first | go_big_quiet_step (fail))
    refine wpQuiet_nil ?_
    rintro _ ⟨y, rfl⟩
    go_wp2
    go_ret
    exact ⟨ret_bool HV.out.symm, etr (eal (eal (Ext.refl _) _) _) y.is⟩
  have q1 : decide (0 ≤ e.el) = true := decide_eq_true (by omega)
  by_cases k2 : (L.els.length : Int) ≤ e.el
  · have HV : Hid (exB L.els e = false) := decide_eq_false (fun h => by omega)
    have q2 : decide (e.el < (L.els.length : Int)) = false := decide_eq_false (by omega)
    clear k1 k2
    go_enter Tryd.func31, Tryd.ntmps31
    go_wp2
    refine wp_region_after (by kernel_rfl) (by kernel_rfl) ?_
    repeat (first | go_big_quiet_step (fail))
    refine wpQuiet_nil ?_
    rintro _ ⟨y, rfl⟩
    go_wp2
    go_ret
    exact ⟨ret_bool HV.out.symm, etr (eal (eal (Ext.refl _) _) _) y.is⟩
  obtain ⟨kE, x, hel, hx, hxe⟩ := has_at (els := L.els) (el := e.el) ⟨by omega, by omega⟩
  obtain ⟨bE, oE, x', hA, hx', hbE, e0, e1, e2, e3, e4, e5, e6⟩ := rd_el HL.out.hE (Ext.refl w) (List.getElem?_eq_some_iff.1 hx).1
  rw [hx] at hx'
  cases hx'
  have hkE := (List.getElem?_eq_some_iff.1 hx).1
  have HXE := Lib.hid hxe
  obtain ⟨el, side⟩ := e
  obtain rfl : el = (kE : Int) := hel
  simp only [] at HXE
  have hbE1 : bE < w.heap.size + 1 := by omega
  have hbE2 : bE < w.heap.size + 1 + 1 := by omega
  have q2 : decide ((kE : Int) < (L.els.length : Int)) = true := decide_eq_true (by omega)
  have q2n : decide (kE < L.els.length) = true := decide_eq_true (by omega)
  have q1' : decide (0 ≤ (kE : Int)) = true := decide_eq_true (by omega)
  clear k1 k2 hx hxe q1
  rw [hA]
  clear hA
  by_cases k3 : side < 0
  · have HV : Hid (exB L.els ⟨kE, side⟩ = false) := decide_eq_false (fun h => by have := h.2.2.1; simp only [] at this; omega)
    have q3 : decide (0 ≤ side) = false := decide_eq_false (by omega)
    clear k3
    go_enter Tryd.func31, Tryd.ntmps31
    go_wp2
    refine wp_region_after (by kernel_rfl) (by kernel_rfl) ?_
    repeat (first | go_big_quiet_step (fail))
    refine wpQuiet_nil ?_
    rintro _ ⟨y, rfl⟩
    go_wp2
    go_ret
    exact ⟨ret_bool HV.out.symm, etr (eal (eal (Ext.refl _) _) _) y.is⟩
  · have q3 : decide (0 ≤ side) = true := decide_eq_true (by omega)
    have HV : Hid (exB L.els ⟨kE, side⟩ = decide (side < sidesV x.kind)) := by
      show _ = _
      unfold exB
      simp only [HXE.out]
      rw [decide_eq_decide]
      exact ⟨fun h => h.2.2.2, fun h => ⟨by omega, by omega, by omega, h⟩⟩
    clear k3
    go_enter Tryd.func31, Tryd.ntmps31
    go_wp2
    refine wp_region_after (by kernel_rfl) (by kernel_rfl) ?_
    repeat (first | go_big_quiet_step ((go_at_call 40; exact after_call _ (sides_any x.kind _))))
    refine wpQuiet_nil ?_
    rintro _ ⟨y, rfl⟩
    go_wp2
    go_ret
    exact ⟨ret_bool HV.out.symm, etr (eal (eal (Ext.refl _) _) _) y.is⟩
end Go.Proofs.YtoodehilgogomaaDoor
