/- Walks of chapter 10's laws: ProfileJoinsTwo. -/
import Derived.Test.YtoodehilgogomaaWLawB
import Derived.Test.YtoodehilgogomaaWProfJ
set_option linter.unusedVariables false
set_option linter.unusedSimpArgs false
namespace Go.Proofs.Ytoodehilgogomaa
open Go.ChangeShapes Go.WideShapes Go.ChangeAt Go.RowKit
open Sg

set_option maxHeartbeats 8000000 in
theorem joins_walk (A B : Option Addr) (p q : List Sgm) (c d : Nat) (w : World) (hm : p.length ≤ maxLen) (hm2 : q.length ≤ maxLen) (hr : Rd w A 4 Sgc p) (hr2 : Rd w B 4 Sgc q) :
    Calls Try.prog 6 #[.slice A p.length c, .slice B q.length d] w fun e w' => e = .returned (.bool true) ∧ Below w.heap.size w w' := by
  have HR := Lib.hid hr
  have HR2 := Lib.hid hr2
  unfold maxLen at hm hm2
  clear hr hr2
  by_cases hl : p.length ≤ 300 ∧ q.length ≤ 300
  · obtain ⟨h1, h2⟩ := hl
    have HV5 : Hid (∀ q : List Sgm, sameL q q = true) := fun q => sameL_true.2 rfl
    go_enter Try.func6, Try.ntmps6
    go_wp2_with fail
    refine (join_any A B p q c d w (by omega) (by omega) HR.out HR2.out).mono ?_
    rintro e w1 ⟨v1, rfl, ho1, hb1⟩
    obtain ⟨A1, cap1, rfl, hr1, hm1⟩ := ho1.rd Sgc_len
    have HR3 := Lib.hid hr1
    have HB1 := Lib.hid hb1
    have HM1 := Lib.hid hm1
    clear ho1 hr1 hb1 hm1
    go_wp2_with fail
    refine (rjoin_any A B p q c d w1 (by omega) (by omega) (HR.out.keep HB1.out) (HR2.out.keep HB1.out)).mono ?_
    rintro e w2 ⟨v2, rfl, ho2, hb2⟩
    obtain ⟨A2, cap2, rfl, hr4, hm2'⟩ := ho2.rd Sgc_len
    have HR4 := Lib.hid hr4
    have HB2 := Lib.hid hb2
    clear ho2 hr4 hb2 hm2'
    go_wp2_with fail
    refine (to_after (same_any A1 A2 (joinL p q) (joinL p q) cap1 cap2 _ HM1.out HM1.out (HR3.out.keep HB2.out) HR4.out)).mono ?_
    rintro e w' ⟨y1, rfl, rfl⟩
    rw [HV5.out]
    go_wp2_with fail
    refine (in_after y1 (alive_any _)).mono ?_
    rintro e w' ⟨y2, rfl, rfl⟩
    go_wp2_with fail
    go_ret
    exact ⟨rfl, etr (etr HB1.out HB2.out) y2.is⟩
  · have key : (300 < p.length) ∨ (p.length ≤ 300 ∧ 300 < q.length) := by omega
    clear hl
    rcases key with k1 | ⟨k1, k2⟩
    all_goals
      go_enter Try.func6, Try.ntmps6
      go_wp2_with (go_at_call 8; refine (to_after (alive_any _)).mono ?_; rintro e w' ⟨y, rfl, rfl⟩)
      go_ret
      exact ⟨rfl, y.is⟩
end Go.Proofs.Ytoodehilgogomaa
