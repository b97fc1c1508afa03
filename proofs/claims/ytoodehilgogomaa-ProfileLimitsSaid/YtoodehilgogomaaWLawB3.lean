/- Walks of chapter 10's laws: ProfileLimits. -/
import Derived.Test.YtoodehilgogomaaWLawB
import Derived.Test.YtoodehilgogomaaWProfI
set_option linter.unusedVariables false
set_option linter.unusedSimpArgs false
namespace Go.Proofs.Ytoodehilgogomaa
open Go.ChangeShapes Go.WideShapes Go.ChangeAt Go.RowKit
open Sg

set_option maxHeartbeats 8000000 in
theorem limits_walk (A : Option Addr) (p : List Sgm) (cap : Nat) (f t v : Int) (w : World) (hm : p.length ≤ maxLen) (hcap : p.length ≤ cap) (hr : Rd w A 4 Sgc p) :
    Calls Try.prog 4 #[.slice A p.length cap, .agg #[.int .i64 f, .int .i64 t, .int .i64 v]] w fun e w' => e = .returned (.bool true) ∧ Below w.heap.size w w' := by
  have HM := Lib.hid hm
  have HR := Lib.hid hr
  unfold maxLen at hm
  clear hr
  by_cases hl : p.length ≤ 300
  · have hl' : decide ((300 : Int) < (p.length : Int)) = false := by simp; omega
    have HV5 : Hid (∀ q : List Sgm, sameL q q = true) := fun q => sameL_true.2 rfl
    go_enter Try.func4, Try.ntmps4
    go_wp2_with fail
    refine wp_region_mono [0, 1, 2, 3, 4, 5, 6, 7, 8, 9, 10, 12, 13, 14, 15, 16, 17, 18] 8 (by kernel_rfl) (by kernel_rfl) (fun _ _ d _ _ h => by cases d <;> exact h) (by kernel_rfl) (by kernel_rfl) ?_
    repeat (refine wpE_step rfl (fun K hK => ?_); go_simp; (refine hK _ ?_; clear hK K))
    refine wpE_nil ?_
    intro x
    have HB0 := Lib.hid (etr (eal (Ext.refl w) _) x.is)
    refine wpAnyR_ready (rs := [11]) (by kernel_rfl) (by simp) (AllR.cons rfl (fun K hK => ?_) AllR.nil)
    go_simp
    go_wp2_with fail
    refine (limit_any A p cap f t v _ (by omega) (HR.out.keep HB0.out)).mono ?_
    rintro e w1 ⟨u1, rfl, ho1, hb1⟩
    obtain ⟨A1, cap1, rfl, hr1, hm1⟩ := ho1.rd Sgc_len
    have HR1 := Lib.hid hr1
    have HB1 := Lib.hid (etr HB0.out hb1)
    have HM1 := Lib.hid hm1
    refine hK _ _ hb1 (fun y => ?_)
    clear hK K ho1 hr1 hb1 hm1
    refine wpAnyR_ready (rs := [19]) (by kernel_rfl) (by simp) (AllR.cons rfl (fun K hK => ?_) AllR.nil)
    go_simp
    go_wp2_with fail
    refine (rlimit_any A p cap f t v _ (by omega) hcap (HR.out.keep (etr HB1.out y.is))).mono ?_
    rintro e w2 ⟨u2, rfl, ho2, hb2⟩
    obtain ⟨A2, cap2, rfl, hr2, hm2⟩ := ho2.rd Sgc_len
    have HR2 := Lib.hid hr2
    have HB2 := Lib.hid (etr (etr HB1.out y.is) hb2)
    have HR3 := Lib.hid ((HR1.out.keep y.is).keep hb2)
    refine hK _ _ hb2 (fun z => ?_)
    clear hK K ho2 hr2 hb2 hm2
    refine wpAnyR_more [20, 21, 22, 23, 24, 25] (fuel := 0) (by kernel_rfl) (fun _ _ d _ _ h => by cases d <;> exact h) (by kernel_rfl) rfl ?_
    repeat (refine wpE_step rfl (fun K hK => ?_); go_simp; (first
      | (refine hK _ ?_; clear hK K)
      | (apply Exists.intro
         refine ⟨fun x => ?_, hK _ ?_⟩
         (first
          | (go_at_call 17; have q := same_any A1 A2 (limL p f t v) (limL p f t v) cap1 cap2 x.val HM1.out HM1.out (HR3.out.keep (etr z.is x.is)) (HR2.out.keep (etr z.is x.is)); rw [HV5.out] at q; exact q)
          | (go_at_call 8; exact alive_any _))
         clear hK K)))
    refine wpE_nil ?_
    intro z9
    refine wpAnyR_done (by kernel_rfl) ?_ _
    go_wp2
    go_ret
    exact ⟨rfl, etr (etr HB2.out z.is) z9.is⟩
  · have hl' : decide ((300 : Int) < (p.length : Int)) = true := by simp; omega
    go_enter Try.func4, Try.ntmps4
    go_wp2_with fail
    refine wp_region_after (by kernel_rfl) (by kernel_rfl) ?_
    repeat (first | go_big_quiet_step ((go_at_call 8; exact after_call _ (alive_any _))))
    refine wpQuiet_nil ?_
    rintro _ ⟨y, rfl⟩
    go_wp2
    go_ret
    exact ⟨rfl, eafter (eal (Ext.refl w) _) y⟩
end Go.Proofs.Ytoodehilgogomaa
