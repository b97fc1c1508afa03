/- Walks of chapter 44's laws: Expires. -/
import Derived.Test.YtifeghhapgpolaaWLawH
import Derived.Deep.Cut
set_option linter.unusedVariables false
set_option linter.unusedSimpArgs false
namespace Go.Proofs.Ytifeghhapgpolaa
open Go.ChangeShapes Go.WideShapes Go.ChangeAt Go.RowKit
open Sg

theorem give_zero {l : List Odr} {o : Odr} {now : Int} (h : givE l o now ≠ 0) : (givL l o now).length = 0 := by unfold givL; rw [if_neg h]; rfl
theorem inV_give1 {l : List Odr} {o : Odr} {now t k later : Int} (h : givE l o now = 0) (h1 : (t == o.train) = true) (h2 : (k == o.kind) = true) : inV (givL l o now) t k later = decide (later ≤ o.until_) := by
  rw [inV_give h, if_pos ⟨by simpa using h1, by simpa using h2⟩]
theorem inV_give2 {l : List Odr} {o : Odr} {now t k later : Int} (h : givE l o now = 0) (h1 : (t == o.train) = false ∨ (k == o.kind) = false) : inV (givL l o now) t k later = inV l t k later := by
  rw [inV_give h, if_neg]
  rintro ⟨rfl, rfl⟩
  rcases h1 with h1 | h1 <;> simp at h1
/-- The guard's test: what is in force later does not hang on Expire. -/
theorem beq_refl (b : Bool) : (b == b) = true := by cases b <;> rfl
theorem bne_refl (b : Bool) : (b != b) = false := by cases b <;> rfl
set_option maxHeartbeats 16000000 in
set_option maxRecDepth 100000 in
theorem expires_tail (A : Option Addr) (l : List Odr) (c : Nat) (o : Odr) (now t k later : Int) (w : World) (hm : l.length ≤ maxLen) (hr : Rd w A 3 Oc l) :
    Calls Try.prog 5 #[.slice A l.length c, .agg #[.int .i64 o.train, .int .i64 o.kind, .int .i64 o.until_], .int .i64 now, .int .i64 t, .int .i64 k, .int .i64 later] w fun e w' => e = .returned (.bool true) ∧ Below w.heap.size w w' := by
  have HR := Lib.hid hr
  have HM := Lib.hid hm
  clear hr hm
  have HE0 := Lib.hid (eal (Ext.refl w) (.cells #[.int .i64 o.train, .int .i64 o.kind, .int .i64 o.until_] 24))
  by_cases hl : 100 < l.length
  · go_enter Try.func5, Try.ntmps5
    go_wp2_with (go_at_call 7; refine (to_after (alive_any _)).mono ?_; rintro e w' ⟨z, rfl, rfl⟩)
    go_ret
    exact ⟨rfl, eafter HE0.out z⟩
  have HB := Lib.hid (CellsAt.new (w := w) (cs := #[.int .i64 o.train, .int .i64 o.kind, .int .i64 o.until_]) (t := 24) rfl)
  have HS : Hid ((w.alloc (.cells #[.int .i64 o.train, .int .i64 o.kind, .int .i64 o.until_] 24)).heap.size = w.heap.size + 1) := by show _ = _; simp
  have HLX : Hid ((expR l now).length ≤ maxLen) := len_le (by have := expR_len l now; omega)
  have HLG : Hid ((givL l o now).length ≤ maxLen) := len_le (by have := @give_len l o now; omega)
  obtain ⟨bi, hbi⟩ : ∃ bi, bi = inV l t k later := ⟨_, rfl⟩
  have hbb := beq_refl bi
  have hbn := bne_refl bi
  have HI := Lib.hid hbi
  -- the way behind the first test, from whatever world
  have REST : ∀ (w2 : World), True := fun _ => trivial
  by_cases hd : now ≤ later
  · have HX : Hid (inV (expR l now) t k later = bi) := by show _ = _; rw [inV_exp hd, hbi]
    clear hbi
    go_enter Try.func5, Try.ntmps5
    go_wp2_with fail
    refine (expire_any A l c now _ (by omega) (HR.out.keep HE0.out)).mono ?_
    rintro e w1 ⟨v1, rfl, ho1, hb1⟩
    obtain ⟨A1, c1, rfl, hr1, _⟩ := ho1.rd Oc_len
    have HR1 := Lib.hid hr1
    have HB1 := Lib.hid hb1
    clear hr1 ho1 hb1
    go_wp2_with fail
    refine (to_after (inforce_any A1 (expR l now) c1 t k later _ HLX.out HR1.out)).mono ?_
    rintro e w' ⟨y2, rfl, rfl⟩
    rw [HX.out]
    go_wp2_with fail
    refine (in_after y2 (inforce_any A l c t k later _ HM.out (HR.out.keep (etr (etr HE0.out HB1.out) y2.is)))).mono ?_
    rintro e w' ⟨y3, rfl, rfl⟩
    rw [← HI.out]
    obtain ⟨w3, hw3⟩ : ∃ w3, w3 = y3.val := ⟨_, rfl⟩
    have HX3 : Hid (Ext w w3) := by rw [hw3]; exact etr (etr HE0.out HB1.out) y3.is
    have HC3 : Hid (CellsAt w3 w.heap.size [.int .i64 o.train, .int .i64 o.kind, .int .i64 o.until_]) := by rw [hw3]; exact (HB.out.keep HB1.out).keep y3.is
    rw [← hw3]
    clear hw3
    have b0 := HC3.out.2 0 _ rfl
    have b1 := HC3.out.2 1 _ rfl
    have b2 := HC3.out.2 2 _ rfl
    have bz := HC3.out.1
    go_wp2_with fail
    refine (give_any A l c o now _ (by omega) (HR.out.keep HX3.out)).mono ?_
    rintro e w4 ⟨B4, d4, rfl, hr4, hb4⟩
    have HR4 := Lib.hid hr4
    have HX4 := Lib.hid (etr HX3.out hb4)
    have HC4 := HC3.out.keep hb4
    clear hr4 hb4 b0 b1 b2 bz
    have b0 := HC4.2 0 _ rfl
    have b1 := HC4.2 1 _ rfl
    have b2 := HC4.2 2 _ rfl
    have bz := HC4.1
    clear HC4
    by_cases he : givE l o now = 0
    · have hed : (givE l o now != 0) = false := by simp [he]
      cases h1 : (t == o.train)
      · have HV : Hid (inV (givL l o now) t k later = bi) := by show _ = _; rw [HI.out]; exact inV_give2 he (.inl h1)
        clear he
        go_wp2_with fail
        refine (to_after (inforce_any B4 (givL l o now) d4 t k later _ HLG.out HR4.out)).mono ?_
        rintro e w' ⟨y5, rfl, rfl⟩
        rw [HV.out]
        go_wp2_with fail
        refine (in_after y5 (inforce_any A l c t k later _ HM.out (HR.out.keep (etr HX4.out y5.is)))).mono ?_
        rintro e w' ⟨y6, rfl, rfl⟩
        rw [← HI.out]
        go_wp2_with (go_at_call 7; refine (in_after y6 (alive_any _)).mono ?_; rintro e w' ⟨z, rfl, rfl⟩)
        go_ret
        exact ⟨rfl, eafter HX4.out z⟩
      · cases h2 : (k == o.kind)
        · have HV : Hid (inV (givL l o now) t k later = bi) := by show _ = _; rw [HI.out]; exact inV_give2 he (.inr h2)
          clear he
          go_wp2_with fail
          refine (to_after (inforce_any B4 (givL l o now) d4 t k later _ HLG.out HR4.out)).mono ?_
          rintro e w' ⟨y5, rfl, rfl⟩
          rw [HV.out]
          go_wp2_with fail
          refine (in_after y5 (inforce_any A l c t k later _ HM.out (HR.out.keep (etr HX4.out y5.is)))).mono ?_
          rintro e w' ⟨y6, rfl, rfl⟩
          rw [← HI.out]
          go_wp2_with (go_at_call 7; refine (in_after y6 (alive_any _)).mono ?_; rintro e w' ⟨z, rfl, rfl⟩)
          go_ret
          exact ⟨rfl, eafter HX4.out z⟩
        · have HV : Hid (inV (givL l o now) t k later = decide (later ≤ o.until_)) := inV_give1 he h1 h2
          have hq := beq_refl (decide (later ≤ o.until_))
          have HVC : Hid (∀ x, Ext w4 x → Calls Try.prog 11 #[.slice B4 (givL l o now).length d4, .int .i64 t, .int .i64 k, .int .i64 later] x fun e w' => e = .returned (.bool (decide (later ≤ o.until_))) ∧ Below x.heap.size x w') := by
            intro x hx
            rw [← HV.out]
            exact inforce_any B4 (givL l o now) d4 t k later _ HLG.out (HR4.out.keep hx)
          clear he
          go_wp2_with fail
          refine wp_region_after (by kernel_rfl) (by kernel_rfl) ?_
          repeat (first | go_big_quiet_step ((first
            | (go_at_call 11; exact after_call _ (HVC.out _ (After.is _)))
            | (go_at_call 7; exact after_call _ (alive_any _)))))
          refine wpQuiet_nil ?_
          rintro _ ⟨y5, rfl⟩
          go_wp2
          go_ret
          exact ⟨rfl, eafter HX4.out y5⟩
    · have hed : (givE l o now != 0) = true := by simpa using he
      have HZ := give_zero he
      have hz0 : (((givL l o now).length : Int) == 0) = true := by rw [HZ]; rfl
      clear he
      go_wp2_with (go_at_call 7; refine (to_after (alive_any _)).mono ?_; rintro e w' ⟨z, rfl, rfl⟩)
      go_ret
      exact ⟨rfl, eafter HX4.out z⟩
  · clear HLX
    go_enter Try.func5, Try.ntmps5
    obtain ⟨w3, hw3⟩ : ∃ w3, w3 = w.alloc (.cells #[.int .i64 o.train, .int .i64 o.kind, .int .i64 o.until_] 24) := ⟨_, rfl⟩
    have HX3 : Hid (Ext w w3) := by rw [hw3]; exact HE0.out
    have HC3 : Hid (CellsAt w3 w.heap.size [.int .i64 o.train, .int .i64 o.kind, .int .i64 o.until_]) := by rw [hw3]; exact HB.out
    go_upto_region 5 with (fail)
    rw [← hw3]
    clear hw3
    have b0 := HC3.out.2 0 _ rfl
    have b1 := HC3.out.2 1 _ rfl
    have b2 := HC3.out.2 2 _ rfl
    have bz := HC3.out.1
    go_wp2_with fail
    refine (give_any A l c o now _ (by omega) (HR.out.keep HX3.out)).mono ?_
    rintro e w4 ⟨B4, d4, rfl, hr4, hb4⟩
    have HR4 := Lib.hid hr4
    have HX4 := Lib.hid (etr HX3.out hb4)
    have HC4 := HC3.out.keep hb4
    clear hr4 hb4 b0 b1 b2 bz
    have b0 := HC4.2 0 _ rfl
    have b1 := HC4.2 1 _ rfl
    have b2 := HC4.2 2 _ rfl
    have bz := HC4.1
    clear HC4
    by_cases he : givE l o now = 0
    · have hed : (givE l o now != 0) = false := by simp [he]
      cases h1 : (t == o.train)
      · have HV : Hid (inV (givL l o now) t k later = bi) := by show _ = _; rw [HI.out]; exact inV_give2 he (.inl h1)
        clear he
        go_wp2_with fail
        refine (to_after (inforce_any B4 (givL l o now) d4 t k later _ HLG.out HR4.out)).mono ?_
        rintro e w' ⟨y5, rfl, rfl⟩
        rw [HV.out]
        go_wp2_with fail
        refine (in_after y5 (inforce_any A l c t k later _ HM.out (HR.out.keep (etr HX4.out y5.is)))).mono ?_
        rintro e w' ⟨y6, rfl, rfl⟩
        rw [← HI.out]
        go_wp2_with (go_at_call 7; refine (in_after y6 (alive_any _)).mono ?_; rintro e w' ⟨z, rfl, rfl⟩)
        go_ret
        exact ⟨rfl, eafter HX4.out z⟩
      · cases h2 : (k == o.kind)
        · have HV : Hid (inV (givL l o now) t k later = bi) := by show _ = _; rw [HI.out]; exact inV_give2 he (.inr h2)
          clear he
          go_wp2_with fail
          refine (to_after (inforce_any B4 (givL l o now) d4 t k later _ HLG.out HR4.out)).mono ?_
          rintro e w' ⟨y5, rfl, rfl⟩
          rw [HV.out]
          go_wp2_with fail
          refine (in_after y5 (inforce_any A l c t k later _ HM.out (HR.out.keep (etr HX4.out y5.is)))).mono ?_
          rintro e w' ⟨y6, rfl, rfl⟩
          rw [← HI.out]
          go_wp2_with (go_at_call 7; refine (in_after y6 (alive_any _)).mono ?_; rintro e w' ⟨z, rfl, rfl⟩)
          go_ret
          exact ⟨rfl, eafter HX4.out z⟩
        · have HV : Hid (inV (givL l o now) t k later = decide (later ≤ o.until_)) := inV_give1 he h1 h2
          have hq := beq_refl (decide (later ≤ o.until_))
          have HVC : Hid (∀ x, Ext w4 x → Calls Try.prog 11 #[.slice B4 (givL l o now).length d4, .int .i64 t, .int .i64 k, .int .i64 later] x fun e w' => e = .returned (.bool (decide (later ≤ o.until_))) ∧ Below x.heap.size x w') := by
            intro x hx
            rw [← HV.out]
            exact inforce_any B4 (givL l o now) d4 t k later _ HLG.out (HR4.out.keep hx)
          clear he
          go_wp2_with fail
          refine wp_region_after (by kernel_rfl) (by kernel_rfl) ?_
          repeat (first | go_big_quiet_step ((first
            | (go_at_call 11; exact after_call _ (HVC.out _ (After.is _)))
            | (go_at_call 7; exact after_call _ (alive_any _)))))
          refine wpQuiet_nil ?_
          rintro _ ⟨y5, rfl⟩
          go_wp2
          go_ret
          exact ⟨rfl, eafter HX4.out y5⟩
    · have hed : (givE l o now != 0) = true := by simpa using he
      have HZ := give_zero he
      have hz0 : (((givL l o now).length : Int) == 0) = true := by rw [HZ]; rfl
      clear he
      go_wp2_with (go_at_call 7; refine (to_after (alive_any _)).mono ?_; rintro e w' ⟨z, rfl, rfl⟩)
      go_ret
      exact ⟨rfl, eafter HX4.out z⟩
end Go.Proofs.Ytifeghhapgpolaa
