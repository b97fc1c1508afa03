/- Chapter 33's laws: Toward, Order, Permitted, End. -/
import Derived.Test.YtajoiajhkbljkaaWLawG
set_option linter.unusedVariables false
set_option linter.unusedSimpArgs false
namespace Go.Proofs.Ytajoiajhkbljkaa
open Go.ChangeShapes Go.WideShapes Go.ChangeAt Go.RowKit
open Sg

theorem toward_walk (d t dec delay : Int) (w : World) (hd2 : dec ≤ 9223372036854775807) :
    Calls Try.prog 3 #[.int .i64 d, .int .i64 t, .int .i64 dec, .int .i64 delay] w fun e w' => e = .returned (.bool true) ∧ Below w.heap.size w w' := by
  go_enter Try.func3, Try.ntmps3
  go_wp2_with (first
    | (go_at_call 9; refine (to_after (toward_any _ _ _ _ hd2 _)).mono ?_; rintro e w' ⟨y, rfl, rfl⟩)
    | (go_at_call 10; refine (rtoward_any _ _ _ _ hd2 _).mono ?_; rintro e w' ⟨rfl, rfl⟩)
    | (go_at_call 11; refine (to_after (alive_any _)).mono ?_; rintro e w' ⟨z, rfl, rfl⟩))
  go_ret
  exact ⟨rfl, etr y.is z.is⟩
set_option maxHeartbeats 4000000 in
theorem order_walk (d more t higher dec delay : Int) (w : World) (hd2 : dec ≤ 9223372036854775807) :
    Calls Try.prog 7 #[.int .i64 d, .int .i64 more, .int .i64 t, .int .i64 higher, .int .i64 dec, .int .i64 delay] w fun e w' => e = .returned (.bool true) ∧ Below w.heap.size w w' := by
  by_cases h1 : d < 0
  · go_enter Try.func7, Try.ntmps7
    go_wp2_with (go_at_call 11; refine (to_after (alive_any _)).mono ?_; rintro e w' ⟨z, rfl, rfl⟩)
    go_ret
    exact ⟨rfl, z.is⟩
  by_cases h2 : more < d
  · go_enter Try.func7, Try.ntmps7
    go_wp2_with (go_at_call 11; refine (to_after (alive_any _)).mono ?_; rintro e w' ⟨z, rfl, rfl⟩)
    go_ret
    exact ⟨rfl, z.is⟩
  by_cases h3 : t < 0
  · go_enter Try.func7, Try.ntmps7
    go_wp2_with (go_at_call 11; refine (to_after (alive_any _)).mono ?_; rintro e w' ⟨z, rfl, rfl⟩)
    go_ret
    exact ⟨rfl, z.is⟩
  by_cases h4 : higher < t
  · go_enter Try.func7, Try.ntmps7
    go_wp2_with (go_at_call 11; refine (to_after (alive_any _)).mono ?_; rintro e w' ⟨z, rfl, rfl⟩)
    go_ret
    exact ⟨rfl, z.is⟩
  by_cases h5 : 10000 < higher
  · go_enter Try.func7, Try.ntmps7
    go_wp2_with (go_at_call 11; refine (to_after (alive_any _)).mono ?_; rintro e w' ⟨z, rfl, rfl⟩)
    go_ret
    exact ⟨rfl, z.is⟩
  have k1 := towV_ge d t dec delay
  have k2 := towV_mono (dec := dec) (delay := delay) (show 0 ≤ d by omega) (show d ≤ more by omega) (show 0 ≤ t by omega) (Int.le_refl t) (by omega)
  have k3 := towV_mono (dec := dec) (delay := delay) (show 0 ≤ d by omega) (Int.le_refl d) (show 0 ≤ t by omega) (show t ≤ higher by omega) (by omega)
  go_enter Try.func7, Try.ntmps7
  go_wp2_with fail
  refine (to_after (toward_any _ _ _ _ hd2 _)).mono ?_
  rintro e w' ⟨y1, rfl, rfl⟩
  go_wp2_with fail
  refine (to_after (toward_any _ _ _ _ hd2 _)).mono ?_
  rintro e w' ⟨y2, rfl, rfl⟩
  go_wp2_with fail
  refine (to_after (toward_any _ _ _ _ hd2 _)).mono ?_
  rintro e w' ⟨y3, rfl, rfl⟩
  go_wp2_with (go_at_call 11; refine (to_after (alive_any _)).mono ?_; rintro e w' ⟨z, rfl, rfl⟩)
  go_ret
  exact ⟨rfl, etr (etr (etr y1.is y2.is) y3.is) z.is⟩
set_option maxHeartbeats 8000000 in
theorem permitted_walk (T : Tr) (E : Es) (sq en : Int) (A LA : Option Addr) (p : List Sgm) (cap ln lc : Nat) (w : World) (hs : T.name.size ≤ maxLen) (hr : Rd w A 4 Sgc p) :
    Calls Try.prog 4 #[.agg #[.int .i64 T.id, .string T.name, .int .i64 T.len, .int .i64 T.speed, .int .i64 T.accel, .int .i64 T.service, .int .i64 T.emergency, .int .i64 T.delay, .int .i64 T.cons, .int .i64 T.rate], .agg #[.int .i64 sq, .int .i64 en, .slice A p.length cap, .slice LA ln lc], .agg #[.int .i64 E.min, .int .i64 E.max, .int .i64 E.speed]] w fun e w' => e = .returned (.bool true) ∧ Below w.heap.size w w' := by
  have HR := Lib.hid hr
  clear hr
  have HBX := Lib.hid (Boxed.mk' w T [.int .i64 sq, .int .i64 en, .slice A p.length cap, .slice LA ln lc] E)
  have HEX := Lib.hid (boxW_ext w T [.int .i64 sq, .int .i64 en, .slice A p.length cap, .slice LA ln lc] E)
  cases hf : fineB T p E en with
  | false =>
    go_enter Try.func4, Try.ntmps4
    go_wp2_with (first
      | (go_at_call 12; refine (to_after (fine_any T E en A p cap _ hs)).mono ?_; rintro e w' ⟨y, rfl, rfl⟩)
      | (go_at_call 11; refine (to_after (alive_any _)).mono ?_; rintro e w' ⟨z, rfl, rfl⟩))
    go_ret
    exact ⟨rfl, eafter (eafter HEX.out y) z⟩
  | true =>
  have HF := Lib.hid (fine_of hf)
  have HM : Hid (p.length ≤ maxLen) := by show _ ≤ _; have := HF.out.len; unfold maxLen; omega
  have HM2 : Hid (p.length ≤ 1000000) := by show _ ≤ _; have := HF.out.len; omega
  go_enter Try.func4, Try.ntmps4
  go_wp2_with fail
  refine (to_after (fine_any T E en A p cap _ hs)).mono ?_
  rintro e w' ⟨y, rfl, rfl⟩
  rw [hf]
  go_wp2_with fail
  have zt := HBX.out.t.1
  have za := HBX.out.a.1
  have ze := HBX.out.e.1
  have u0 := HBX.out.t.2 0 _ rfl
  have u1 := HBX.out.t.2 1 _ rfl
  have u2 := HBX.out.t.2 2 _ rfl
  have u3 := HBX.out.t.2 3 _ rfl
  have u4 := HBX.out.t.2 4 _ rfl
  have u5 := HBX.out.t.2 5 _ rfl
  have u6 := HBX.out.t.2 6 _ rfl
  have u7 := HBX.out.t.2 7 _ rfl
  have u8 := HBX.out.t.2 8 _ rfl
  have u9 := HBX.out.t.2 9 _ rfl
  have a0 := HBX.out.a.2 0 _ rfl
  have a1 := HBX.out.a.2 1 _ rfl
  have a2 := HBX.out.a.2 2 _ rfl
  have a3 := HBX.out.a.2 3 _ rfl
  have e0 := HBX.out.e.2 0 _ rfl
  have e1 := HBX.out.e.2 1 _ rfl
  have e2 := HBX.out.e.2 2 _ rfl
  refine wp_region_in y (by kernel_rfl) (by kernel_rfl) ?_
  repeat (first | go_big_quiet_step ((first
    | (go_at_call 13; exact after_call _ (ceil_any T E A p cap _ HM.out HF.out.near.e1 HF.out.near.t (HR.out.keep (eafter HEX.out _))))
    | (go_at_call 14; exact after_call _ (rceil_any T E A p cap _ HM2.out HF.out.near.e1 HF.out.near.t (HR.out.keep (eafter HEX.out _))))
    | (go_at_call 15; exact after_call _ (perm_any T E sq en A LA p cap ln lc _ HM2.out HF.out.near (HR.out.keep (eafter HEX.out _))))
    | (go_at_call 16; exact after_call _ (rperm_any T E sq en A LA p cap ln lc _ HM2.out HF.out.near (HR.out.keep (eafter HEX.out _))))
    | (go_at_call 11; exact after_call _ (alive_any _)))))
  refine wpQuiet_nil ?_
  rintro _ ⟨y2, rfl⟩
  go_wp2
  go_ret
  exact ⟨rfl, eafter HEX.out y2⟩
set_option maxHeartbeats 8000000 in
theorem end_walk (T : Tr) (E : Es) (sq en : Int) (A LA : Option Addr) (p : List Sgm) (cap ln lc : Nat) (w : World) (hs : T.name.size ≤ maxLen) (hr : Rd w A 4 Sgc p) :
    Calls Try.prog 6 #[.agg #[.int .i64 T.id, .string T.name, .int .i64 T.len, .int .i64 T.speed, .int .i64 T.accel, .int .i64 T.service, .int .i64 T.emergency, .int .i64 T.delay, .int .i64 T.cons, .int .i64 T.rate], .agg #[.int .i64 sq, .int .i64 en, .slice A p.length cap, .slice LA ln lc], .agg #[.int .i64 E.min, .int .i64 E.max, .int .i64 E.speed]] w fun e w' => e = .returned (.bool true) ∧ Below w.heap.size w w' := by
  have HR := Lib.hid hr
  clear hr
  have HBX := Lib.hid (Boxed.mk' w T [.int .i64 sq, .int .i64 en, .slice A p.length cap, .slice LA ln lc] E)
  have HEX := Lib.hid (boxW_ext w T [.int .i64 sq, .int .i64 en, .slice A p.length cap, .slice LA ln lc] E)
  cases hf : fineB T p E en with
  | false =>
    go_enter Try.func6, Try.ntmps6
    go_wp2_with (first
      | (go_at_call 12; refine (to_after (fine_any T E en A p cap _ hs)).mono ?_; rintro e w' ⟨y, rfl, rfl⟩)
      | (go_at_call 11; refine (to_after (alive_any _)).mono ?_; rintro e w' ⟨z, rfl, rfl⟩))
    go_ret
    exact ⟨rfl, eafter (eafter HEX.out y) z⟩
  | true =>
  have HF := Lib.hid (fine_of hf)
  have HM : Hid (p.length ≤ maxLen) := by show _ ≤ _; have := HF.out.len; unfold maxLen; omega
  have HM2 : Hid (p.length ≤ 1000000) := by show _ ≤ _; have := HF.out.len; omega
  have HD : Hid (decV T p E en = effV T.service (steepV p E.min en)) := rfl
  obtain ⟨n1, n2⟩ := HF.out.n2
  obtain ⟨n3, n4⟩ := HF.out.n3
  have nw : IntKind.i64.wrap (en - E.max) = en - E.max := IntWalk.i64_in _ (by omega)
  have hst := permV_stops (T := T) (p := p) (e := E) (end_ := en)
  have hdl : decV T p E en ≤ 9223372036854775807 := decV_le _ _ _ _
  obtain ⟨dec, hdec⟩ : ∃ dec, dec = decV T p E en := ⟨_, rfl⟩
  rw [← hdec] at HD hst hdl
  clear hdec
  have hst2 : permV T p E en ≤ 0 ∨ (0 < permV T p E en ∧ dstV (permV T p E en) dec T.delay ≤ en - E.max) := by omega
  clear hst
  have hst3 : (decide (permV T p E en ≤ 0) = true) ∨ (decide (permV T p E en ≤ 0) = false ∧ decide (dstV (permV T p E en) dec T.delay ≤ en - E.max) = true) := by
    rcases hst2 with k1 | ⟨k1, k2⟩
    · exact .inl (decide_eq_true k1)
    · exact .inr ⟨decide_eq_false (by omega), decide_eq_true k2⟩
  clear hst2
  rcases hst3 with k1 | ⟨k1, k2⟩
  all_goals
    go_enter Try.func6, Try.ntmps6
    go_wp2_with fail
    refine (to_after (fine_any T E en A p cap _ hs)).mono ?_
    rintro e w' ⟨y, rfl, rfl⟩
    rw [hf]
    have zt := HBX.out.t.1
    have za := HBX.out.a.1
    have ze := HBX.out.e.1
    have u0 := HBX.out.t.2 0 _ rfl
    have u1 := HBX.out.t.2 1 _ rfl
    have u2 := HBX.out.t.2 2 _ rfl
    have u3 := HBX.out.t.2 3 _ rfl
    have u4 := HBX.out.t.2 4 _ rfl
    have u5 := HBX.out.t.2 5 _ rfl
    have u6 := HBX.out.t.2 6 _ rfl
    have u7 := HBX.out.t.2 7 _ rfl
    have u8 := HBX.out.t.2 8 _ rfl
    have u9 := HBX.out.t.2 9 _ rfl
    have a0 := HBX.out.a.2 0 _ rfl
    have a1 := HBX.out.a.2 1 _ rfl
    have a2 := HBX.out.a.2 2 _ rfl
    have a3 := HBX.out.a.2 3 _ rfl
    have e0 := HBX.out.e.2 0 _ rfl
    have e1 := HBX.out.e.2 1 _ rfl
    have e2 := HBX.out.e.2 2 _ rfl
    go_wp2_with fail
    refine (in_after y (perm_any T E sq en A LA p cap ln lc _ HM2.out HF.out.near (HR.out.keep (eafter HEX.out y)))).mono ?_
    rintro e w' ⟨y3, rfl, rfl⟩
    go_wp2_with fail
    refine wp_region_in y3 (by kernel_rfl) (by kernel_rfl) ?_
    repeat (first | go_big_quiet_step ((first
      | (go_at_call 18; exact after_call _ (steepest_any _ p cap _ _ _ HM.out (HR.out.keep (eafter HEX.out _))))
      | (go_at_call 17; exact after_same _ (eff_any _ _ _)))))
    refine wpQuiet_nil ?_
    rintro _ ⟨y4, rfl⟩
    rw [← HD.out]
    go_wp2_with fail
    refine wp_region_in y4 (by kernel_rfl) (by kernel_rfl) ?_
    repeat (first | go_big_quiet_step ((first
      | (go_at_call 19; exact after_same _ (dist_any _ _ _ hdl _))
      | (go_at_call 11; exact after_call _ (alive_any _)))))
    refine wpQuiet_nil ?_
    rintro _ ⟨y5, rfl⟩
    go_wp2
    go_ret
    exact ⟨rfl, eafter HEX.out y5⟩
end Go.Proofs.Ytajoiajhkbljkaa
