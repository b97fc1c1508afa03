/- Walks of package walk and of its reference: exists, possible, need, Next. -/
import Derived.Test.YtacnfchoemndeaaDoorWLayC
set_option linter.unusedVariables false
set_option linter.unusedSimpArgs false
set_option maxRecDepth 100000
namespace Go.Proofs.YtacnfchoemndeaaDoor
open Go.ChangeShapes Go.WideShapes Go.ChangeAt Go.RowKit
open Sg

open Classical in
noncomputable def hasB (els : List Elm) (el : Int) : Bool := decide (hasEl els el)
theorem hasB_true {els : List Elm} {el : Int} (h : 0 ≤ el) (g : el < els.length) : hasB els el = true := by simp [hasB, hasEl, h, g]
theorem hasB_low {els : List Elm} {el : Int} (h : el < 0) : hasB els el = false := by unfold hasB; exact decide_eq_false (fun g => by unfold hasEl at g; omega)
theorem hasB_high {els : List Elm} {el : Int} (h : (els.length : Int) ≤ el) : hasB els el = false := by unfold hasB; exact decide_eq_false (fun g => by unfold hasEl at g; omega)
noncomputable def possV (els : List Elm) (s : Stp) : Int := if hasB els s.el = true then needV (elAt els s.el).kind s.in_ s.out_ else 0
noncomputable def possB (els : List Elm) (s : Stp) : Bool := hasB els s.el && needB (elAt els s.el).kind s.in_ s.out_
theorem possB_true {els : List Elm} {s : Stp} : possB els s = true ↔ StepOk els s := by simp [possB, hasB, StepOk]
theorem poss_no {els : List Elm} {s : Stp} (h : hasB els s.el = false) : possV els s = 0 ∧ possB els s = false := by simp [possV, possB, h]
theorem poss_yes {els : List Elm} {s : Stp} {x : Elm} (h : hasB els s.el = true) (hx : elAt els s.el = x) : possV els s = needV x.kind s.in_ s.out_ ∧ possB els s = needB x.kind s.in_ s.out_ := by simp [possV, possB, h, hx]
def nextE (s : Stp) : Sg.End := ⟨s.el, s.out_⟩
theorem exi_any (L : Lay) (el : Int) (w : World) : Calls Tryd.prog 68 #[.agg #[.string L.name, .slice L.aS L.secs.length L.cS, .slice L.aE L.els.length L.cE, .slice L.aJ L.jts.length L.cJ, .slice L.aG L.sgs.length L.cG, .slice L.aB L.bals.length L.cB], .int .i64 el] w fun e w' => e = .returned (.bool (hasB L.els el)) ∧ Below w.heap.size w w' := by
  by_cases k1 : el < 0
  · have HV := Lib.hid (hasB_low (els := L.els) k1)
    have q1 : decide (0 ≤ el) = false := decide_eq_false (by omega)
    clear k1
    go_enter Tryd.func68, Tryd.ntmps68
    go_wp2
    go_ret
    exact ⟨ret_bool HV.out.symm, eal (Ext.refl _) _⟩
  have q1 : decide (0 ≤ el) = true := decide_eq_true (by omega)
  by_cases k2 : (L.els.length : Int) ≤ el
  · have HV := Lib.hid (hasB_high k2)
    have q2 : decide (el < (L.els.length : Int)) = false := decide_eq_false (by omega)
    clear k1 k2
    go_enter Tryd.func68, Tryd.ntmps68
    go_wp2
    go_ret
    exact ⟨ret_bool HV.out.symm, eal (Ext.refl _) _⟩
  · have HV := Lib.hid (hasB_true (els := L.els) (el := el) (by omega) (by omega))
    have q2 : decide (el < (L.els.length : Int)) = true := decide_eq_true (by omega)
    clear k1 k2
    go_enter Tryd.func68, Tryd.ntmps68
    go_wp2
    go_ret
    exact ⟨ret_bool HV.out.symm, eal (Ext.refl _) _⟩
theorem rexi_any (L : Lay) (el : Int) (w : World) : Calls Tryd.prog 55 #[.agg #[.string L.name, .slice L.aS L.secs.length L.cS, .slice L.aE L.els.length L.cE, .slice L.aJ L.jts.length L.cJ, .slice L.aG L.sgs.length L.cG, .slice L.aB L.bals.length L.cB], .int .i64 el] w fun e w' => e = .returned (.bool (hasB L.els el)) ∧ Below w.heap.size w w' := by
  by_cases k1 : el < 0
  · have HV := Lib.hid (hasB_low (els := L.els) k1)
    have q1 : decide (0 ≤ el) = false := decide_eq_false (by omega)
    clear k1
    go_enter Tryd.func55, Tryd.ntmps55
    go_wp2
    go_ret
    exact ⟨ret_bool HV.out.symm, eal (Ext.refl _) _⟩
  have q1 : decide (0 ≤ el) = true := decide_eq_true (by omega)
  by_cases k2 : (L.els.length : Int) ≤ el
  · have HV := Lib.hid (hasB_high k2)
    have q2 : decide (el < (L.els.length : Int)) = false := decide_eq_false (by omega)
    clear k1 k2
    go_enter Tryd.func55, Tryd.ntmps55
    go_wp2
    go_ret
    exact ⟨ret_bool HV.out.symm, eal (Ext.refl _) _⟩
  · have HV := Lib.hid (hasB_true (els := L.els) (el := el) (by omega) (by omega))
    have q2 : decide (el < (L.els.length : Int)) = true := decide_eq_true (by omega)
    clear k1 k2
    go_enter Tryd.func55, Tryd.ntmps55
    go_wp2
    go_ret
    exact ⟨ret_bool HV.out.symm, eal (Ext.refl _) _⟩
set_option maxHeartbeats 8000000 in
theorem poss_any (L : Lay) (s : Stp) (w : World) (hL : LayOk w L) (hT : Tabs w) : Calls Tryd.prog 52 #[.agg #[.string L.name, .slice L.aS L.secs.length L.cS, .slice L.aE L.els.length L.cE, .slice L.aJ L.jts.length L.cJ, .slice L.aG L.sgs.length L.cG, .slice L.aB L.bals.length L.cB], .agg #[.int .i64 s.el, .int .i64 s.in_, .int .i64 s.out_]] w fun e w' => e = .returned (.tuple #[.int .i64 (possV L.els s), .bool (possB L.els s)]) ∧ Below w.heap.size w w' := by
  have HL := Lib.hid hL
  have HT := Lib.hid hT
  clear hT
  cases hh : hasB L.els s.el
  · have HV := Lib.hid (poss_no hh)
    have HH := Lib.hid hh
    clear hh
    go_enter Tryd.func52, Tryd.ntmps52
    go_wp2_with (go_at_call 68; refine (to_after (exi_any L s.el _)).mono ?_; rw [HH.out]; rintro e w' ⟨y, rfl, rfl⟩)
    go_ret2
    exact ⟨ret_ib HV.out.1.symm HV.out.2.symm, etr (eal (eal (Ext.refl _) _) _) y.is⟩
  · have HH := Lib.hid hh
    have h0 : hasEl L.els s.el := by simpa [hasB] using hh
    obtain ⟨k, hk⟩ : ∃ k : Nat, s.el = (k : Int) := ⟨s.el.toNat, by have := h0.1; omega⟩
    have hlt : k < L.els.length := by have := h0.2; omega
    obtain ⟨b, off, x, hA, hs, hbl, c0, c1, c2, c3, c4, c5, c6⟩ := rd_el HL.out.hE (Ext.refl w) hlt
    have hx : elAt L.els s.el = x := by rw [hk]; exact elAt_of hs
    have HV := Lib.hid (poss_yes hh hx)
    have hbl1 : b < w.heap.size + 1 := by omega
    have hbl2 : b < w.heap.size + 1 + 1 := by omega
    have HLm := Lib.hid HL.out.lE
    obtain ⟨el, in_, out_⟩ := s
    obtain rfl : el = (k : Int) := hk
    clear c0 c2 c3 c4 c5 c6 hx hs hh h0 hL
    simp only [] at HV HH ⊢
    rw [hA]
    clear hA
    go_enter Tryd.func52, Tryd.ntmps52
    go_wp2_with (go_at_call 68; refine (to_after (exi_any { L with aE := some ⟨b, off, none⟩ } k _)).mono ?_; rw [HH.out]; rintro e w' ⟨y, rfl, rfl⟩)
    refine wp_region_in y (by kernel_rfl) (by kernel_rfl) ?_
    repeat (first | go_big_quiet_step ((first | (go_at_call 69; exact after_call _ (need_any x.kind in_ out_ _ (HT.out.keep (etr (eal (eal (Ext.refl _) _) _) (After.is _))))))))
    refine wpQuiet_nil ?_
    rintro _ ⟨z, rfl⟩
    go_wp2
    go_ret2
    exact ⟨ret_ib HV.out.1.symm HV.out.2.symm, etr (eal (eal (Ext.refl _) _) _) z.is⟩
set_option maxHeartbeats 8000000 in
theorem rposs_any (L : Lay) (s : Stp) (w : World) (hL : LayOk w L) : Calls Tryd.prog 41 #[.agg #[.string L.name, .slice L.aS L.secs.length L.cS, .slice L.aE L.els.length L.cE, .slice L.aJ L.jts.length L.cJ, .slice L.aG L.sgs.length L.cG, .slice L.aB L.bals.length L.cB], .agg #[.int .i64 s.el, .int .i64 s.in_, .int .i64 s.out_]] w fun e w' => e = .returned (.tuple #[.int .i64 (possV L.els s), .bool (possB L.els s)]) ∧ Below w.heap.size w w' := by
  have HL := Lib.hid hL
  cases hh : hasB L.els s.el
  · have HV := Lib.hid (poss_no hh)
    have HH := Lib.hid hh
    clear hh
    go_enter Tryd.func41, Tryd.ntmps41
    go_wp2_with (go_at_call 55; refine (to_after (rexi_any L s.el _)).mono ?_; rw [HH.out]; rintro e w' ⟨y, rfl, rfl⟩)
    go_ret2
    exact ⟨ret_ib HV.out.1.symm HV.out.2.symm, etr (eal (eal (Ext.refl _) _) _) y.is⟩
  · have HH := Lib.hid hh
    have h0 : hasEl L.els s.el := by simpa [hasB] using hh
    obtain ⟨k, hk⟩ : ∃ k : Nat, s.el = (k : Int) := ⟨s.el.toNat, by have := h0.1; omega⟩
    have hlt : k < L.els.length := by have := h0.2; omega
    obtain ⟨b, off, x, hA, hs, hbl, c0, c1, c2, c3, c4, c5, c6⟩ := rd_el HL.out.hE (Ext.refl w) hlt
    have hx : elAt L.els s.el = x := by rw [hk]; exact elAt_of hs
    have HV := Lib.hid (poss_yes hh hx)
    have hbl1 : b < w.heap.size + 1 := by omega
    have hbl2 : b < w.heap.size + 1 + 1 := by omega
    have HLm := Lib.hid HL.out.lE
    obtain ⟨el, in_, out_⟩ := s
    obtain rfl : el = (k : Int) := hk
    clear c0 c2 c3 c4 c5 c6 hx hs hh h0 hL
    simp only [] at HV HH ⊢
    rw [hA]
    clear hA
    go_enter Tryd.func41, Tryd.ntmps41
    go_wp2_with (go_at_call 55; refine (to_after (rexi_any { L with aE := some ⟨b, off, none⟩ } k _)).mono ?_; rw [HH.out]; rintro e w' ⟨y, rfl, rfl⟩)
    refine wp_region_in y (by kernel_rfl) (by kernel_rfl) ?_
    repeat (first | go_big_quiet_step ((first | (go_at_call 56; exact after_call _ (rneed_any x.kind in_ out_ _)))))
    refine wpQuiet_nil ?_
    rintro _ ⟨z, rfl⟩
    go_wp2
    go_ret2
    exact ⟨ret_ib HV.out.1.symm HV.out.2.symm, etr (eal (eal (Ext.refl _) _) _) z.is⟩
set_option maxHeartbeats 8000000 in
theorem pass_any (L : Lay) (s : Stp) (b : Nat) (w : World) (hL : LayOk w L) (hC : CellsAt w b [.string L.name, .slice L.aS L.secs.length L.cS, .slice L.aE L.els.length L.cE, .slice L.aJ L.jts.length L.cJ, .slice L.aG L.sgs.length L.cG, .slice L.aB L.bals.length L.cB]) : Calls Tryd.prog 66 #[.agg #[.int .i64 s.el, .int .i64 s.in_, .int .i64 s.out_], .pointer (some ⟨b, 0, none⟩)] w fun r w' => r = .returned (.tuple #[.agg #[.int .i64 (joinV L.jts (nextE s)).el, .int .i64 (joinV L.jts (nextE s)).side], .bool (joinB L.jts (nextE s))]) ∧ Below w.heap.size w w' := by
  have HL := Lib.hid hL
  have l0 := hC.1
  have l1 : b < w.heap.size + 1 := by omega
  have l2 : b < w.heap.size + 1 + 1 := by omega
  have c0 := hC.2 0 _ rfl
  have c1 := hC.2 1 _ rfl
  have c2 := hC.2 2 _ rfl
  have c3 := hC.2 3 _ rfl
  have c4 := hC.2 4 _ rfl
  have c5 := hC.2 5 _ rfl
  clear hC hL
  go_enter Tryd.func66, Tryd.ntmps66
  go_wp2_with (go_at_call 67; refine (to_after (joined_any L (nextE s) _ (HL.out.keep (eal (eal (Ext.refl _) _) _)))).mono ?_; rintro e w' ⟨y, rfl, rfl⟩)
  have g0 : w.heap.size + 1 < y.val.heap.size := by have := y.is.size; simp at this; omega
  go_wp2
  exact bodyPost_ret (v := .tuple #[.agg #[.int .i64 (joinV L.jts (nextE s)).el, .int .i64 (joinV L.jts (nextE s)).side], .bool (joinB L.jts (nextE s))]) (by simp [results, Tryd.results66, go_sem, g0]) rfl ⟨rfl, eset (eset (etr (eal (eal (Ext.refl _) _) _) y.is) (by omega) _ _) (by omega) _ _⟩
set_option maxHeartbeats 8000000 in
theorem rnext_any (L : Lay) (s : Stp) (w : World) (hL : LayOk w L) : Calls Tryd.prog 42 #[.agg #[.string L.name, .slice L.aS L.secs.length L.cS, .slice L.aE L.els.length L.cE, .slice L.aJ L.jts.length L.cJ, .slice L.aG L.sgs.length L.cG, .slice L.aB L.bals.length L.cB], .agg #[.int .i64 s.el, .int .i64 s.in_, .int .i64 s.out_]] w fun r w' => r = .returned (.tuple #[.agg #[.int .i64 (joinV L.jts (nextE s)).el, .int .i64 (joinV L.jts (nextE s)).side], .bool (joinB L.jts (nextE s))]) ∧ Below w.heap.size w w' := by
  have HL := Lib.hid hL
  clear hL
  go_enter Tryd.func42, Tryd.ntmps42
  go_wp2_with (go_at_call 57; refine (to_after (rjoined_any L (nextE s) _ (HL.out.keep (eal (eal (eal (Ext.refl _) _) _) _)))).mono ?_; rintro e w' ⟨y, rfl, rfl⟩)
  have g0 : w.heap.size + 1 + 1 < y.val.heap.size := by have := y.is.size; simp at this; omega
  go_wp2
  exact bodyPost_ret (v := .tuple #[.agg #[.int .i64 (joinV L.jts (nextE s)).el, .int .i64 (joinV L.jts (nextE s)).side], .bool (joinB L.jts (nextE s))]) (by simp [results, Tryd.results42, go_sem, g0]) rfl ⟨rfl, eset (eset (etr (eal (eal (eal (Ext.refl _) _) _) _) y.is) (by omega) _ _) (by omega) _ _⟩
theorem passage_any (L : Lay) (w : World) : Calls Tryd.prog 51 #[.agg #[.string L.name, .slice L.aS L.secs.length L.cS, .slice L.aE L.els.length L.cE, .slice L.aJ L.jts.length L.cJ, .slice L.aG L.sgs.length L.cG, .slice L.aB L.bals.length L.cB]] w fun e w' => e = .returned (.func (.func 66) #[] #[.pointer (some ⟨w.heap.size, 0, none⟩)]) ∧ w' = w.alloc (.cells #[.string L.name, .slice L.aS L.secs.length L.cS, .slice L.aE L.els.length L.cE, .slice L.aJ L.jts.length L.cJ, .slice L.aG L.sgs.length L.cG, .slice L.aB L.bals.length L.cB] 28) := by
  have hmf : ∀ (fn : Fn) (first cap : Array Value) (w : World), (Instr.makeFunc fn first cap).run Tryd.prog w = .ok (.func fn first cap) w := fun _ _ _ _ => rfl
  go_enter Tryd.func51, Tryd.ntmps51
  go_wp2
  go_ret
  exact ⟨rfl, rfl⟩
end Go.Proofs.YtacnfchoemndeaaDoor
