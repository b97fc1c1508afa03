/- Walks: motion.Reads of two bodies that are not both right, and of any two in a valid layout. Printed by gen_law5e.py (out of XWReaC). -/
import Derived.Test.YticonpjkcocgeaaDoorWSymF
import Derived.Test.YticonpjkcocgeaaDoorPOrd5
import Derived.Test.YticonpjkcocgeaaDoorWReaC
import Derived.Test.YticonpjkcocgeaaDoorWChks
set_option linter.unusedVariables false
set_option linter.unusedSimpArgs false
set_option maxRecDepth 100000
namespace Go.Proofs.YticonpjkcocgeaaDoor
open Go.ChangeShapes Go.WideShapes Go.ChangeAt Go.RowKit
open Sg

theorem ids_pair {L : Lay} (h : LayV L) : L.bals.Pairwise fun a b => a.id ≠ b.id := by
  rw [List.pairwise_iff_getElem]
  intro i j hi hj hij
  have := h.ids i j L.bals[i].id L.bals[j].id hij (by rw [List.getElem?_map, List.getElem?_eq_getElem hi]; rfl) (by rw [List.getElem?_map, List.getElem?_eq_getElem hj]; rfl)
  exact this
section
set_option maxHeartbeats 16000000
theorem reads_bad (L : Lay) (A1 : Option Addr) (l1 : List Stp) (c1 : Nat) (head1 len1 : Int) (A2 : Option Addr) (l2 : List Stp) (c2 : Nat) (head2 len2 : Int) (w : World) (hL : LayOk w L) (hT : Tabs w) (hE : ElsOk L.els)
    (hr1 : Rd w A1 3 Stc l1) (hm1 : l1.length ≤ 200) (hc1 : l1.length ≤ c1) (hr2 : Rd w A2 3 Stc l2) (hm2 : l2.length ≤ 200) (hc2 : l2.length ≤ c2) (hbad : ¬ (chkM L.els L.jts l1 head1 len1 = 0 ∧ chkM L.els L.jts l2 head2 len2 = 0)) :
    Calls Tryd.prog 11 #[.agg #[.string L.name, .slice L.aS L.secs.length L.cS, .slice L.aE L.els.length L.cE, .slice L.aJ L.jts.length L.cJ, .slice L.aG L.sgs.length L.cG, .slice L.aB L.bals.length L.cB], .agg #[.slice A1 l1.length c1, .int .i64 head1, .int .i64 len1], .agg #[.slice A2 l2.length c2, .int .i64 head2, .int .i64 len2]] w (ReadsRet w (readsV L.els L.jts L.bals l1 head1 len1 l2 head2 len2)) := by
  have HL := Lib.hid hL
  have HE := Lib.hid hE
  have HR1 := Lib.hid hr1
  have HR2 := Lib.hid hr2
  have HBAD := Lib.hid hbad
  obtain ⟨k1, hk1⟩ : ∃ k, k = chkM L.els L.jts l1 head1 len1 := ⟨_, rfl⟩
  obtain ⟨k2, hk2⟩ : ∃ k, k = chkM L.els L.jts l2 head2 len2 := ⟨_, rfl⟩
  have HK1 := Lib.hid hk1
  have HK2 := Lib.hid hk2
  have HC1 : Hid (∀ w' : World, Ext w w' → Calls Tryd.prog 24 #[.agg #[.string L.name, .slice L.aS L.secs.length L.cS, .slice L.aE L.els.length L.cE, .slice L.aJ L.jts.length L.cJ, .slice L.aG L.sgs.length L.cG, .slice L.aB L.bals.length L.cB], .agg #[.slice A1 l1.length c1, .int .i64 head1, .int .i64 len1]] w' fun e w2 => e = .returned (.int .i64 k1) ∧ Below w'.heap.size w' w2) := fun w' h1 => by
    have := bchk_any L A1 l1 c1 head1 len1 w' (HL.out.keep h1) (hT.keep h1) HE.out (HR1.out.keep h1) hm1 hc1
    rw [← HK1.out] at this; exact this
  have HC2 : Hid (∀ w' : World, Ext w w' → Calls Tryd.prog 24 #[.agg #[.string L.name, .slice L.aS L.secs.length L.cS, .slice L.aE L.els.length L.cE, .slice L.aJ L.jts.length L.cJ, .slice L.aG L.sgs.length L.cG, .slice L.aB L.bals.length L.cB], .agg #[.slice A2 l2.length c2, .int .i64 head2, .int .i64 len2]] w' fun e w2 => e = .returned (.int .i64 k2) ∧ Below w'.heap.size w' w2) := fun w' h1 => by
    have := bchk_any L A2 l2 c2 head2 len2 w' (HL.out.keep h1) (hT.keep h1) HE.out (HR2.out.keep h1) hm2 hc2
    rw [← HK2.out] at this; exact this
  have E0 : Hid (Ext w (((w.alloc (.cells #[.string L.name, .slice L.aS L.secs.length L.cS, .slice L.aE L.els.length L.cE, .slice L.aJ L.jts.length L.cJ, .slice L.aG L.sgs.length L.cG, .slice L.aB L.bals.length L.cB] 28)).alloc (.cells #[.slice A1 l1.length c1, .int .i64 head1, .int .i64 len1] 32)).alloc (.cells #[.slice A2 l2.length c2, .int .i64 head2, .int .i64 len2] 32))) := eal (eal (eal (Ext.refl _) _) _) _
  clear hL hT hE hr1 hr2 hbad
  by_cases q1 : k1 = 0
  case neg =>
    have HV : Hid (readsV L.els L.jts L.bals l1 head1 len1 l2 head2 len2 = []) := by show _ = _; unfold readsV; rw [if_neg (fun h => q1 (hk1.trans h.1))]
    have p1 : (k1 != 0) = true := by simpa using q1
    clear q1 hk1 hk2
    go_enter Tryd.func11, Tryd.ntmps11
    go_wp2_with (go_at_call 24; refine (to_after (HC1.out _ E0.out)).mono ?_; clear HC1; rintro e w' ⟨y, rfl, rfl⟩)
    go_ret
    exact ReadsRet.nil (etr E0.out y.is) HV.out
  by_cases q2 : k2 = 0
  case neg =>
    have HV : Hid (readsV L.els L.jts L.bals l1 head1 len1 l2 head2 len2 = []) := by show _ = _; unfold readsV; rw [if_neg (fun h => q2 (hk2.trans h.2))]
    have p1 : (k1 != 0) = false := by simpa using q1
    have p2 : (k2 != 0) = true := by simpa using q2
    clear q1 q2 hk1 hk2
    go_enter Tryd.func11, Tryd.ntmps11
    go_wp2_with (first | (go_at_call 24; refine (to_after (HC1.out _ E0.out)).mono ?_; clear HC1; rintro e w' ⟨y, rfl, rfl⟩; have y1 : w.heap.size + 2 < y.val.heap.size := (by have h := y.is.size; simp at h; omega)) | (go_at_call 24; refine (in_after _ (HC2.out _ (etr E0.out (After.is _)))).mono ?_; rintro e w' ⟨y, rfl, rfl⟩))
    go_ret
    exact ReadsRet.nil (etr E0.out (After.is _)) HV.out
  exact absurd (And.intro (hk1.symm.trans q1) (hk2.symm.trans q2)) HBAD.out
end
/-- In a valid layout. -/
theorem reads_all (L : Lay) (A1 : Option Addr) (l1 : List Stp) (c1 : Nat) (head1 len1 : Int) (A2 : Option Addr) (l2 : List Stp) (c2 : Nat) (head2 len2 : Int) (w : World) (hL : LayOk w L) (hT : Tabs w) (hV : LayV L)
    (hr1 : Rd w A1 3 Stc l1) (hm1 : l1.length ≤ 200) (hc1 : l1.length ≤ c1) (hr2 : Rd w A2 3 Stc l2) (hm2 : l2.length ≤ 200) (hc2 : l2.length ≤ c2) :
    Calls Tryd.prog 11 #[.agg #[.string L.name, .slice L.aS L.secs.length L.cS, .slice L.aE L.els.length L.cE, .slice L.aJ L.jts.length L.cJ, .slice L.aG L.sgs.length L.cG, .slice L.aB L.bals.length L.cB], .agg #[.slice A1 l1.length c1, .int .i64 head1, .int .i64 len1], .agg #[.slice A2 l2.length c2, .int .i64 head2, .int .i64 len2]] w (ReadsRet w (readsV L.els L.jts L.bals l1 head1 len1 l2 head2 len2)) := by
  by_cases h : chkM L.els L.jts l1 head1 len1 = 0 ∧ chkM L.els L.jts l2 head2 len2 = 0
  · exact reads_any 39 sort_more L A1 l1 c1 head1 len1 A2 l2 c2 head2 len2 w hL hT hV.els hV.bals (by have := hV.few; omega) hr1 hm1 hc1 hr2 hm2 hc2 (Nat.le_trans (passA_len (ids_pair hV) (chkM_zero.1 h.2).1.1) (by have := hV.few; omega))
  · exact reads_bad L A1 l1 c1 head1 len1 A2 l2 c2 head2 len2 w hL hT hV.els hr1 hm1 hc1 hr2 hm2 hc2 h
theorem readsV_len {L : Lay} (hV : LayV L) {l1 l2 : List Stp} {head1 len1 head2 len2 : Int} : (readsV L.els L.jts L.bals l1 head1 len1 l2 head2 len2).length ≤ 24 := by
  unfold readsV
  split
  · rename_i h
    have h1 := reaF_len (strV L.els l2 head2) (sortP (passA L.els L.bals l1 head1 l2))
    rw [sortP_len] at h1
    have h2 := passA_len (els := L.els) (head1 := head1) (l1 := l1) (ids_pair hV) (chkM_zero.1 h.2).1.1
    have := hV.few
    omega
  · simp
end Go.Proofs.YticonpjkcocgeaaDoor
