/- Chapter 33's laws: Ceiling. -/
import Derived.Test.YtajoiajhkbljkaaWLawG3
import Derived.Deep.Cut
set_option linter.unusedVariables false
set_option linter.unusedSimpArgs false
namespace Go.Proofs.Ytajoiajhkbljkaa
open Go.ChangeShapes Go.WideShapes Go.ChangeAt Go.RowKit
open Sg

set_option maxHeartbeats 16000000 in
theorem ceiling_walk (T : Tr) (E : Es) (sq en fu : Int) (A LA : Option Addr) (p : List Sgm) (cap ln lc : Nat) (w : World) (hs : T.name.size ≤ maxLen) (hr : Rd w A 4 Sgc p) (hpc : p.length ≤ cap) :
    Calls Try.prog 8 #[.agg #[.int .i64 T.id, .string T.name, .int .i64 T.len, .int .i64 T.speed, .int .i64 T.accel, .int .i64 T.service, .int .i64 T.emergency, .int .i64 T.delay, .int .i64 T.cons, .int .i64 T.rate], .agg #[.int .i64 sq, .int .i64 en, .slice A p.length cap, .slice LA ln lc], .agg #[.int .i64 E.min, .int .i64 E.max, .int .i64 E.speed], .int .i64 fu] w fun e w' => e = .returned (.bool true) ∧ Below w.heap.size w w' := by
  have HR := Lib.hid hr
  clear hr
  have HBX := Lib.hid (Boxed.mk' w T [.int .i64 sq, .int .i64 en, .slice A p.length cap, .slice LA ln lc] E)
  have HEX := Lib.hid (boxW_ext w T [.int .i64 sq, .int .i64 en, .slice A p.length cap, .slice LA ln lc] E)
  cases hf : fineB T p E en with
  | false =>
    go_enter Try.func8, Try.ntmps8
    go_wp2_with (first
      | (go_at_call 12; refine (to_after (fine_any T E en A p cap _ hs)).mono ?_; rintro e w' ⟨y, rfl, rfl⟩)
      | (go_at_call 11; refine (to_after (alive_any _)).mono ?_; rintro e w' ⟨z, rfl, rfl⟩))
    go_ret
    exact ⟨rfl, eafter (eafter HEX.out y) z⟩
  | true =>
  have HF := Lib.hid (fine_of hf)
  have HM : Hid (p.length ≤ maxLen) := by show _ ≤ _; have := HF.out.len; unfold maxLen; omega
  have HM2 : Hid (p.length ≤ 1000000) := by show _ ≤ _; have := HF.out.len; omega
  go_enter Try.func8, Try.ntmps8
  go_wp2_with fail
  refine (to_after (fine_any T E en A p cap _ hs)).mono ?_
  rintro e w' ⟨y, rfl, rfl⟩
  rw [hf]
  have HB1 := HBX.out.keep y.is
  have HX1 := Lib.hid (eafter HEX.out y)
  obtain ⟨w1, hw1⟩ : ∃ w1, w1 = y.val := ⟨_, rfl⟩
  rw [← hw1] at HB1 HX1 ⊢
  clear hw1
  have HB1 := Lib.hid HB1
  have a2 := HB1.out.a.2 2 _ rfl
  have za := HB1.out.a.1
  go_wp2_with fail
  refine (to_after (valid_any A p cap _ HM.out (HR.out.keep HX1.out))).mono ?_
  rintro e w' ⟨y2, rfl, rfl⟩
  have HB2 := Lib.hid (HB1.out.keep y2.is)
  have HX2 := Lib.hid (eafter HX1.out y2)
  obtain ⟨w2, hw2⟩ : ∃ w2, w2 = y2.val := ⟨_, rfl⟩
  rw [← hw2] at HB2 HX2 ⊢
  clear hw2 a2 za HB1 HX1
  have HB := HB2.out
  cases hv : validB p with
  | false =>
    go_wp2_with (go_at_call 11; refine (to_after (alive_any _)).mono ?_; rintro e w' ⟨z, rfl, rfl⟩)
    go_ret
    exact ⟨rfl, eafter HX2.out z⟩
  | true =>
    have u0 := HB.t.2 0 _ rfl
    have u1 := HB.t.2 1 _ rfl
    have u2 := HB.t.2 2 _ rfl
    have u3 := HB.t.2 3 _ rfl
    have u4 := HB.t.2 4 _ rfl
    have u5 := HB.t.2 5 _ rfl
    have u6 := HB.t.2 6 _ rfl
    have u7 := HB.t.2 7 _ rfl
    have u8 := HB.t.2 8 _ rfl
    have u9 := HB.t.2 9 _ rfl
    have a0 := HB.a.2 0 _ rfl
    have a1 := HB.a.2 1 _ rfl
    have a2 := HB.a.2 2 _ rfl
    have a3 := HB.a.2 3 _ rfl
    have e0 := HB.e.2 0 _ rfl
    have e1 := HB.e.2 1 _ rfl
    have e2 := HB.e.2 2 _ rfl
    have zt := HB.t.1
    have za := HB.a.1
    have ze := HB.e.1
    clear HB
    by_cases h1 : E.max < E.min
    · go_wp2_with (go_at_call 11; refine (to_after (alive_any _)).mono ?_; rintro e w' ⟨z, rfl, rfl⟩)
      go_ret
      exact ⟨rfl, eafter HX2.out z⟩
    have c1 : decide (E.max < E.min) = false := decide_eq_false h1
    by_cases h2 : fu < E.max
    · go_wp2_with (go_at_call 11; refine (to_after (alive_any _)).mono ?_; rintro e w' ⟨z, rfl, rfl⟩)
      go_ret
      exact ⟨rfl, eafter HX2.out z⟩
    have c2 : decide (fu < E.max) = false := decide_eq_false h2
    cases h3 : nearB fu with
    | false =>
      go_wp2_with (first
        | (go_at_call 21; refine (near_any _ _).mono ?_; rintro e w' ⟨rfl, rfl⟩)
        | (go_at_call 11; refine (to_after (alive_any _)).mono ?_; rintro e w' ⟨z, rfl, rfl⟩))
      go_ret
      exact ⟨rfl, eafter HX2.out z⟩
    | true =>
    go_wp2_with fail
    refine (near_any _ _).mono ?_
    rintro e w' ⟨rfl, rfl⟩
    rw [h3]
    obtain ⟨n1, n2⟩ := nearB_iff.1 h3
    clear h3
    obtain ⟨kp1, kp2⟩ := permV_le (T := T) (e := E) (end_ := en) hv
    have kp3 := permV_nonneg (T := T) (p := p) (e := E) (end_ := en) (by have := HF.out.tr.speed; omega)
    have kp4 : ceilV T p E ≤ T.speed := by unfold ceilV; omega
    have HV := Lib.hid hv
    clear hv kp2
    go_wp2_with fail
    refine wp_region_after (by kernel_rfl) (by kernel_rfl) ?_
    repeat (first | go_big_quiet_step ((first
      | (go_at_call 13; exact after_call _ (ceil_any T E A p cap _ HM.out HF.out.near.e1 HF.out.near.t (HR.out.keep (eafter HX2.out _))))
      | (go_at_call 15; exact after_call _ (perm_any T E sq en A LA p cap ln lc _ HM2.out HF.out.near (HR.out.keep (eafter HX2.out _)))))))
    refine wpQuiet_nil ?_
    rintro _ ⟨y3, rfl⟩
    have HB3 := Lib.hid (HB2.out.keep y3.is)
    have HX3 := Lib.hid (eafter HX2.out y3)
    obtain ⟨w3, hw3⟩ : ∃ w3, w3 = y3.val := ⟨_, rfl⟩
    rw [← hw3] at HB3 HX3 ⊢
    clear hw3 u0 u1 u2 u3 u4 u5 u6 u7 u8 u9 a0 a1 a2 a3 e0 e1 e2 zt za ze HB2 HX2
    have HB := HB3.out
    have u0 := HB.t.2 0 _ rfl
    have u1 := HB.t.2 1 _ rfl
    have u2 := HB.t.2 2 _ rfl
    have u3 := HB.t.2 3 _ rfl
    have u4 := HB.t.2 4 _ rfl
    have u5 := HB.t.2 5 _ rfl
    have u6 := HB.t.2 6 _ rfl
    have u7 := HB.t.2 7 _ rfl
    have u8 := HB.t.2 8 _ rfl
    have u9 := HB.t.2 9 _ rfl
    have a0 := HB.a.2 0 _ rfl
    have a1 := HB.a.2 1 _ rfl
    have a2 := HB.a.2 2 _ rfl
    have a3 := HB.a.2 3 _ rfl
    have e0 := HB.e.2 0 _ rfl
    have e1 := HB.e.2 1 _ rfl
    have e2 := HB.e.2 2 _ rfl
    have zt := HB.t.1
    have za := HB.a.1
    have ze := HB.e.1
    clear HB
    go_upto_region 8 with (fail)
    have HX4 := Lib.hid (eal HX3.out (.cells #[.int .i64 E.min, .int .i64 fu, .int .i64 E.speed] 32))
    have HB4 := Lib.hid (HB3.out.keep (eal (Ext.refl _) (.cells #[.int .i64 E.min, .int .i64 fu, .int .i64 E.speed] 32)))
    obtain ⟨w4, hw4⟩ : ∃ w4, w4 = w3.alloc (.cells #[.int .i64 E.min, .int .i64 fu, .int .i64 E.speed] 32) := ⟨_, rfl⟩
    have hC : CellsAt w4 w3.heap.size [.int .i64 E.min, .int .i64 fu, .int .i64 E.speed] := by rw [hw4]; exact CellsAt.new rfl
    have hCz := hC.1
    have hC0 := hC.2 0 _ rfl
    have hC1 := hC.2 1 _ rfl
    have hC2 := hC.2 2 _ rfl
    rw [← hw4] at HX4 HB4 ⊢
    clear hw4 hC u0 u1 u2 u3 u4 u5 u6 u7 u8 u9 a0 a1 a2 a3 e0 e1 e2 zt za ze HB3 HX3
    have HB := HB4.out
    have u0 := HB.t.2 0 _ rfl
    have u1 := HB.t.2 1 _ rfl
    have u2 := HB.t.2 2 _ rfl
    have u3 := HB.t.2 3 _ rfl
    have u4 := HB.t.2 4 _ rfl
    have u5 := HB.t.2 5 _ rfl
    have u6 := HB.t.2 6 _ rfl
    have u7 := HB.t.2 7 _ rfl
    have u8 := HB.t.2 8 _ rfl
    have u9 := HB.t.2 9 _ rfl
    have a0 := HB.a.2 0 _ rfl
    have a1 := HB.a.2 1 _ rfl
    have a2 := HB.a.2 2 _ rfl
    have a3 := HB.a.2 3 _ rfl
    have e0 := HB.e.2 0 _ rfl
    have e1 := HB.e.2 1 _ rfl
    have e2 := HB.e.2 2 _ rfl
    have zt := HB.t.1
    have za := HB.a.1
    have ze := HB.e.1
    clear HB
    have hln := HF.out.len
    by_cases h0 : p.length = 0
    · obtain rfl := List.length_eq_zero_iff.1 h0
      go_upto_region 9 with (fail)
      refine wp_region_after (by kernel_rfl) (by kernel_rfl) ?_
      repeat (first | go_big_quiet_step (fail))
      refine wpQuiet_nil ?_
      rintro _ ⟨y5, rfl⟩
      go_wp2_with (go_at_call 11; refine (in_after y5 (alive_any _)).mono ?_; rintro e w' ⟨z, rfl, rfl⟩)
      go_ret
      exact ⟨rfl, eafter HX4.out z⟩
    obtain ⟨b, off, s0, rfl, hs0, hbs, c0, c1', c2', c3'⟩ := rd_seg HR.out HX4.out (show 0 < p.length by omega)
    obtain ⟨b2, off2, s1, hA2, hs1, _, l0, l1, l2, l3⟩ := rd_seg HR.out HX4.out (show p.length - 1 < p.length by omega)
    simp only [Option.some.injEq, Addr.mk.injEq] at hA2
    obtain ⟨rfl, rfl, -⟩ := hA2
    have hh : headF p = s0.from_ := by unfold headF; simp [List.getD_eq_getElem?_getD, hs0]
    have hl : lastT p = s1.to_ := by unfold lastT; simp [List.getD_eq_getElem?_getD, hs1]
    have hL : 0 ≤ T.len := by have := HF.out.tr.len; omega
    have hn3 : IntKind.i64.wrap (E.min - T.len) = E.min - T.len := by
      have := HF.out.n1; have := HF.out.tr.len
      exact IntWalk.i64_in _ (by omega)
    have hq : (decide (E.min - T.len < s0.from_) = true) ∨ (decide (E.min - T.len < s0.from_) = false ∧ decide (s1.to_ < fu) = true) ∨ (decide (E.min - T.len < s0.from_) = false ∧ decide (s1.to_ < fu) = false ∧ Hid (permV T p { E with max := fu } en ≤ permV T p E en)) := by
      by_cases q1 : E.min - T.len < s0.from_
      · exact .inl (decide_eq_true q1)
      · by_cases q2 : s1.to_ < fu
        · exact .inr (.inl ⟨decide_eq_false q1, decide_eq_true q2⟩)
        · exact .inr (.inr ⟨decide_eq_false q1, decide_eq_false q2, permV_mono HV.out (by omega) h1 hL (by omega) (by omega) h2⟩)
    have hN : Hid (NearB T { E with max := fu } en) := ⟨HF.out.near.e1, by show -4294967296 ≤ fu ∧ fu ≤ 4294967296; omega, HF.out.near.e3, HF.out.near.t⟩
    have hs01 : p.length = 1 → s1 = s0 := fun e => by
      rw [e] at hs1
      rw [hs0] at hs1
      exact (Option.some.inj hs1).symm
    clear hh hl hL hs0 hs1 kp1 kp3 kp4
    have h1l : (p.length = 1 ∧ (p.length : Int) - 1 ≤ 0) ∨ (((p.length : Int) - 1).toNat = p.length - 1 ∧ (0 : Int) < (p.length : Int) - 1) := by omega
    have hq1 : p.length - (p.length - 1) = 1 := by omega
    have hp0 : 0 < p.length := by omega
    have c00 : w4.cell? ⟨b, off, none⟩ = some (.int .i64 s0.from_) := by simpa using c0
    have hp0d : decide (0 < p.length) = true := decide_eq_true hp0
    have l1o : p.length = 1 → w4.cell? ⟨b, off + 1, none⟩ = some (.int .i64 s1.to_) := fun e => by
      rw [e] at l1
      simpa using l1
    rcases h1l with ⟨hp1, hm1⟩ | ⟨hnn, hm1⟩
    · have l1 := l1o hp1
      obtain rfl := hs01 hp1
      clear l1o hs01
      rcases hq with q1 | ⟨q1, q2⟩ | ⟨q1, q2, HP⟩
      · go_upto_region 9 with (fail)
        refine wp_region_after (by kernel_rfl) (by kernel_rfl) ?_
        repeat (first | go_big_quiet_step (fail))
        refine wpQuiet_nil ?_
        rintro _ ⟨y5, rfl⟩
        go_wp2_with (go_at_call 11; refine (in_after y5 (alive_any _)).mono ?_; rintro e w' ⟨z, rfl, rfl⟩)
        go_ret
        exact ⟨rfl, eafter HX4.out z⟩
      · go_upto_region 9 with (fail)
        refine wp_region_after (by kernel_rfl) (by kernel_rfl) ?_
        repeat (first | go_big_quiet_step (fail))
        refine wpQuiet_nil ?_
        rintro _ ⟨y5, rfl⟩
        go_wp2_with (go_at_call 11; refine (in_after y5 (alive_any _)).mono ?_; rintro e w' ⟨z, rfl, rfl⟩)
        go_ret
        exact ⟨rfl, eafter HX4.out z⟩
      · have hPd : decide (permV T p { E with max := fu } en ≤ permV T p E en) = true := decide_eq_true HP.out
        go_upto_region 9 with (fail)
        refine wp_region_after (by kernel_rfl) (by kernel_rfl) ?_
        repeat (first | go_big_quiet_step (fail))
        refine wpQuiet_nil ?_
        rintro _ ⟨y5, rfl⟩
        go_wp2_with fail
        have PA := in_after y5 (perm_any T { E with max := fu } sq en (some ⟨b, off, none⟩) LA p cap ln lc _ HM2.out hN.out (HR.out.keep (eafter HX4.out y5)))
        rw [hp1] at PA
        refine PA.mono ?_
        rintro e w' ⟨y6, rfl, rfl⟩
        go_wp2_with (go_at_call 11; refine (in_after y6 (alive_any _)).mono ?_; rintro e w' ⟨z, rfl, rfl⟩)
        go_ret
        exact ⟨rfl, eafter HX4.out z⟩
    · clear l1o hs01
      rcases hq with q1 | ⟨q1, q2⟩ | ⟨q1, q2, HP⟩
      · go_upto_region 9 with (fail)
        refine wp_region_after (by kernel_rfl) (by kernel_rfl) ?_
        repeat (first | go_big_quiet_step (fail))
        refine wpQuiet_nil ?_
        rintro _ ⟨y5, rfl⟩
        go_wp2_with (go_at_call 11; refine (in_after y5 (alive_any _)).mono ?_; rintro e w' ⟨z, rfl, rfl⟩)
        go_ret
        exact ⟨rfl, eafter HX4.out z⟩
      · go_upto_region 9 with (fail)
        refine wp_region_after (by kernel_rfl) (by kernel_rfl) ?_
        repeat (first | go_big_quiet_step (fail))
        refine wpQuiet_nil ?_
        rintro _ ⟨y5, rfl⟩
        go_wp2_with (go_at_call 11; refine (in_after y5 (alive_any _)).mono ?_; rintro e w' ⟨z, rfl, rfl⟩)
        go_ret
        exact ⟨rfl, eafter HX4.out z⟩
      · have hPd : decide (permV T p { E with max := fu } en ≤ permV T p E en) = true := decide_eq_true HP.out
        go_upto_region 9 with (fail)
        refine wp_region_after (by kernel_rfl) (by kernel_rfl) ?_
        repeat (first | go_big_quiet_step (fail))
        refine wpQuiet_nil ?_
        rintro _ ⟨y5, rfl⟩
        go_wp2_with fail
        refine (in_after y5 (perm_any T { E with max := fu } sq en (some ⟨b, off, none⟩) LA p cap ln lc _ HM2.out hN.out (HR.out.keep (eafter HX4.out y5)))).mono ?_
        rintro e w' ⟨y6, rfl, rfl⟩
        go_wp2_with (go_at_call 11; refine (in_after y6 (alive_any _)).mono ?_; rintro e w' ⟨z, rfl, rfl⟩)
        go_ret
        exact ⟨rfl, eafter HX4.out z⟩
end Go.Proofs.Ytajoiajhkbljkaa
