/- Walks of package profile and of its reference: Join. -/
import Derived.Test.YtoodehilgogomaaLibSeg
import Derived.Test.YtoodehilgogomaaWProfI
import Derived.Test.YtoodehilgogomaaPJoin
set_option linter.unusedVariables false
set_option linter.unusedSimpArgs false
namespace Go.Proofs.Ytoodehilgogomaa
open Go.ChangeShapes Go.WideShapes Go.ChangeAt Go.RowKit
open Sg

theorem join_bad {p q : List Sgm} (h : ¬ (validB p = true ∧ validB q = true)) : joinE p q = 1 ∧ joinL p q = [] := by
  have e : joinE p q = 1 := by rw [joinE, if_pos h]
  exact ⟨e, by rw [joinL, e, if_neg (by decide)]⟩
theorem join_con {p q : List Sgm} (hp : validB p = true) (hq : validB q = true) (h1 : 0 < p.length) (h2 : 0 < q.length) (h : lastT p ≠ headF q) : joinE p q = 10 ∧ joinL p q = [] := by
  have e : joinE p q = 10 := by rw [joinE, if_neg (fun k => k ⟨hp, hq⟩), if_pos ⟨h1, h2, h⟩]
  exact ⟨e, by rw [joinL, e, if_neg (by decide)]⟩
theorem join_big {p q : List Sgm} (hp : validB p = true) (hq : validB q = true) (h : p.length = 0 ∨ q.length = 0 ∨ lastT p = headF q) (hl : 128 < p.length + q.length) : joinE p q = 2 ∧ joinL p q = [] := by
  have e : joinE p q = 2 := by rw [joinE, if_neg (fun k => k ⟨hp, hq⟩), if_neg (fun k => by omega), if_pos hl]
  exact ⟨e, by rw [joinL, e, if_neg (by decide)]⟩
theorem join_ok {p q : List Sgm} (hp : validB p = true) (hq : validB q = true) (h : p.length = 0 ∨ q.length = 0 ∨ lastT p = headF q) (hl : p.length + q.length ≤ 128) : joinE p q = 0 ∧ joinL p q = p ++ q := by
  have e : joinE p q = 0 := by rw [joinE, if_neg (fun k => k ⟨hp, hq⟩), if_neg (fun k => by omega), if_neg (by omega)]
  exact ⟨e, by rw [joinL, e, if_pos rfl]⟩
theorem last_at {p : List Sgm} {s : Sgm} (h : p[p.length - 1]? = some s) : lastT p = s.to_ := by rw [lastT, List.getD_eq_getElem?_getD, h]; rfl
theorem head_at {p : List Sgm} {s : Sgm} (h : p[0]? = some s) : headF p = s.from_ := by rw [headF, List.getD_eq_getElem?_getD, h]; rfl
theorem ret_vi {v : Value} {k : IntKind} {a b : Int} (h : a = b) : Ending.returned (.tuple #[v, .int k a]) = .returned (.tuple #[v, .int k b]) := by rw [h]
set_option maxHeartbeats 4000000 in
theorem join_any (A B : Option Addr) (p q : List Sgm) (c d : Nat) (w : World) (hm : p.length ≤ 400000) (hm2 : q.length ≤ 400000) (hr : Rd w A 4 Sgc p) (hr2 : Rd w B 4 Sgc q) :
    Calls Try.prog 22 #[.slice A p.length c, .slice B q.length d] w fun e w' => ∃ v, e = .returned (.tuple #[v, .int .i64 (joinE p q)]) ∧ OwnL w' w.heap.size 25 4 Sgc v (joinL p q) ∧ Below w.heap.size w w' := by
  have HM : Hid (p.length ≤ maxLen) := by show _ ≤ _; unfold maxLen; omega
  have HM2 : Hid (q.length ≤ maxLen) := by show _ ≤ _; unfold maxLen; omega
  have HR := Lib.hid hr
  have HR2 := Lib.hid hr2
  clear hr hr2
  cases hv : validB p
  · obtain ⟨e1, e2⟩ := @join_bad p q (by rw [hv]; simp)
    have E1 := Lib.hid e1
    have E2 := Lib.hid e2
    clear e1 e2
    go_enter Try.func22, Try.ntmps22
    go_wp2_with (go_at_call 11; refine (to_after (valid_any A p c _ HM.out HR.out)).mono ?_; rintro e w' ⟨y, rfl, rfl⟩)
    go_ret2
    exact ⟨_, ret_vi E1.out.symm, by rw [E2.out]; exact OwnL.nil, y.is⟩
  cases hv2 : validB q
  · obtain ⟨e1, e2⟩ := @join_bad p q (by rw [hv2]; simp)
    have E1 := Lib.hid e1
    have E2 := Lib.hid e2
    clear e1 e2
    go_enter Try.func22, Try.ntmps22
    go_wp2_with (first
      | (go_at_call 11; (with_reducible refine (to_after (valid_any A p c _ HM.out HR.out)).mono ?_); rintro e w' ⟨y, rfl, rfl⟩)
      | (go_at_call 11; (with_reducible refine (in_after y (valid_any B q d _ HM2.out (HR2.out.keep y.is))).mono ?_); rintro e w' ⟨y2, rfl, rfl⟩))
    go_ret2
    exact ⟨_, ret_vi E1.out.symm, by rw [E2.out]; exact OwnL.nil, y2.is⟩
  have hlp : p.length ≤ 128 := (validB_true.1 hv).1
  have hlq : q.length ≤ 128 := (validB_true.1 hv2).1
  by_cases hn : 0 < p.length ∧ 0 < q.length
  · obtain ⟨n1, n2⟩ := hn
    by_cases hj : lastT p = headF q
    · by_cases hl : p.length + q.length ≤ 128
      · obtain ⟨e1, e2⟩ := join_ok hv hv2 (.inr (.inr hj)) hl
        have E1 := Lib.hid e1
        have E2 := Lib.hid e2
        have HJ := Lib.hid hj
        clear e1 e2 hj
        go_enter Try.func22, Try.ntmps22
        go_wp2_with (first
          | (go_at_call 11; (with_reducible refine (to_after (valid_any A p c _ HM.out HR.out)).mono ?_); rintro e w' ⟨y, rfl, rfl⟩)
          | (go_at_call 11; (with_reducible refine (in_after y (valid_any B q d _ HM2.out (HR2.out.keep y.is))).mono ?_); rintro e w' ⟨y2, rfl, rfl⟩))
        obtain ⟨b, off, s, rfl, hs, hbs, c0, c1, c2, c3⟩ := rd_seg (k := p.length - 1) HR.out y2.is (by omega)
        obtain ⟨b', off', s', rfl, hs', hbs', d0, d1, d2, d3⟩ := rd_seg (k := 0) HR2.out y2.is (by omega)
        have d0' : y2.val.cell? ⟨b', off', none⟩ = some (.int .i64 s'.from_) := by simpa using d0
        have hne : (s.to_ != s'.from_) = false := by
          have := HJ.out
          rw [last_at hs, head_at hs'] at this
          simpa using this
        clear hs hs'
        refine wp_region_after (by kernel_rfl) (by kernel_rfl) ?_
        repeat (first | go_big_quiet_step (fail))
        refine wpQuiet_nil ?_
        rintro _ ⟨y3, rfl⟩
        go_wp2_with fail
        refine (concat_Seg [⟨some ⟨b, off, none⟩, p, c⟩, ⟨some ⟨b', off', none⟩, q, d⟩] _ 2 _ (by exact CellsAt.new rfl) (fun i s hi => ?_) (by simp) (by simp [SrcSeg.all]; omega)).mono ?_
        · have : i = 0 ∨ i = 1 := by have := (List.getElem?_eq_some_iff.1 hi).1; simp at this; omega
          rcases this with rfl | rfl
          · simp at hi; subst hi; exact HR.out.keep (eal (etr y2.is y3.is) _)
          · simp at hi; subst hi; exact HR2.out.keep (eal (etr y2.is y3.is) _)
        rintro e w5 ⟨v5, rfl, ho5, hb5⟩
        have HO5 := Lib.hid ho5
        have HB5 := Lib.hid hb5
        clear ho5 hb5
        go_wp2
        go_ret2
        exact ⟨_, ret_vi E1.out.symm, by rw [E2.out]; have := HO5.out.mono (b' := w.heap.size) (esz (eal (etr y2.is y3.is) _)); simpa [SrcSeg.all] using this, etr (eal (etr y2.is y3.is) _) HB5.out⟩
      · obtain ⟨e1, e2⟩ := join_big hv hv2 (.inr (.inr hj)) (by omega)
        have E1 := Lib.hid e1
        have E2 := Lib.hid e2
        have HJ := Lib.hid hj
        clear e1 e2 hj
        go_enter Try.func22, Try.ntmps22
        go_wp2_with (first
          | (go_at_call 11; (with_reducible refine (to_after (valid_any A p c _ HM.out HR.out)).mono ?_); rintro e w' ⟨y, rfl, rfl⟩)
          | (go_at_call 11; (with_reducible refine (in_after y (valid_any B q d _ HM2.out (HR2.out.keep y.is))).mono ?_); rintro e w' ⟨y2, rfl, rfl⟩))
        obtain ⟨b, off, s, rfl, hs, hbs, c0, c1, c2, c3⟩ := rd_seg (k := p.length - 1) HR.out y2.is (by omega)
        obtain ⟨b', off', s', rfl, hs', hbs', d0, d1, d2, d3⟩ := rd_seg (k := 0) HR2.out y2.is (by omega)
        have d0' : y2.val.cell? ⟨b', off', none⟩ = some (.int .i64 s'.from_) := by simpa using d0
        have hne : (s.to_ != s'.from_) = false := by
          have := HJ.out
          rw [last_at hs, head_at hs'] at this
          simpa using this
        clear hs hs'
        refine wp_region_after (by kernel_rfl) (by kernel_rfl) ?_
        repeat (first | go_big_quiet_step (fail))
        refine wpQuiet_nil ?_
        rintro _ ⟨y3, rfl⟩
        go_wp2
        go_ret2
        exact ⟨_, ret_vi E1.out.symm, by rw [E2.out]; exact OwnL.nil, etr y2.is y3.is⟩
    · obtain ⟨e1, e2⟩ := join_con hv hv2 n1 n2 hj
      have E1 := Lib.hid e1
      have E2 := Lib.hid e2
      have HJ := Lib.hid hj
      clear e1 e2 hj
      go_enter Try.func22, Try.ntmps22
      go_wp2_with (first
        | (go_at_call 11; (with_reducible refine (to_after (valid_any A p c _ HM.out HR.out)).mono ?_); rintro e w' ⟨y, rfl, rfl⟩)
        | (go_at_call 11; (with_reducible refine (in_after y (valid_any B q d _ HM2.out (HR2.out.keep y.is))).mono ?_); rintro e w' ⟨y2, rfl, rfl⟩))
      obtain ⟨b, off, s, rfl, hs, hbs, c0, c1, c2, c3⟩ := rd_seg (k := p.length - 1) HR.out y2.is (by omega)
      obtain ⟨b', off', s', rfl, hs', hbs', d0, d1, d2, d3⟩ := rd_seg (k := 0) HR2.out y2.is (by omega)
      have d0' : y2.val.cell? ⟨b', off', none⟩ = some (.int .i64 s'.from_) := by simpa using d0
      have hne : (s.to_ != s'.from_) = true := by
        have := HJ.out
        rw [last_at hs, head_at hs'] at this
        simpa using this
      clear hs hs'
      refine wp_region_after (by kernel_rfl) (by kernel_rfl) ?_
      repeat (first | go_big_quiet_step (fail))
      refine wpQuiet_nil ?_
      rintro _ ⟨y3, rfl⟩
      go_wp2
      go_ret2
      exact ⟨_, ret_vi E1.out.symm, by rw [E2.out]; exact OwnL.nil, etr y2.is y3.is⟩
  · have hz : p.length = 0 ∨ q.length = 0 := by omega
    obtain ⟨e1, e2⟩ := join_ok hv hv2 (by omega) (show p.length + q.length ≤ 128 by omega)
    have E1 := Lib.hid e1
    have E2 := Lib.hid e2
    clear e1 e2 hn
    rcases hz with hz | hz
    · have z1 : decide (0 < p.length) = false := by simpa using hz
      have z2 : decide ((0 : Int) < (p.length : Int)) = false := decide_eq_false (by omega)
      clear hz
      go_enter Try.func22, Try.ntmps22
      go_wp2_with (first
        | (go_at_call 11; (with_reducible refine (to_after (valid_any A p c _ HM.out HR.out)).mono ?_); rintro e w' ⟨y, rfl, rfl⟩)
        | (go_at_call 11; (with_reducible refine (in_after y (valid_any B q d _ HM2.out (HR2.out.keep y.is))).mono ?_); rintro e w' ⟨y2, rfl, rfl⟩))
      refine (concat_Seg [⟨A, p, c⟩, ⟨B, q, d⟩] _ 2 _ (by exact CellsAt.new rfl) (fun i s hi => ?_) (by simp) (by simp [SrcSeg.all]; omega)).mono ?_
      · have : i = 0 ∨ i = 1 := by have := (List.getElem?_eq_some_iff.1 hi).1; simp at this; omega
        rcases this with rfl | rfl
        · simp at hi; subst hi; exact HR.out.keep (eal y2.is _)
        · simp at hi; subst hi; exact HR2.out.keep (eal y2.is _)
      rintro e w5 ⟨v5, rfl, ho5, hb5⟩
      have HO5 := Lib.hid ho5
      have HB5 := Lib.hid hb5
      clear ho5 hb5
      go_wp2
      go_ret2
      exact ⟨_, ret_vi E1.out.symm, by rw [E2.out]; have := HO5.out.mono (b' := w.heap.size) (esz (eal y2.is _)); simpa [SrcSeg.all] using this, etr (eal y2.is _) HB5.out⟩
    · have z1 : decide (0 < q.length) = false := by simpa using hz
      have z2 : decide ((0 : Int) < (q.length : Int)) = false := decide_eq_false (by omega)
      clear hz
      by_cases n1 : 0 < p.length
      all_goals (try have n2 : decide (0 < p.length) = false := by simpa using n1)
      all_goals
        go_enter Try.func22, Try.ntmps22
        go_wp2_with (first
          | (go_at_call 11; (with_reducible refine (to_after (valid_any A p c _ HM.out HR.out)).mono ?_); rintro e w' ⟨y, rfl, rfl⟩)
          | (go_at_call 11; (with_reducible refine (in_after y (valid_any B q d _ HM2.out (HR2.out.keep y.is))).mono ?_); rintro e w' ⟨y2, rfl, rfl⟩))
        refine (concat_Seg [⟨A, p, c⟩, ⟨B, q, d⟩] _ 2 _ (by exact CellsAt.new rfl) (fun i s hi => ?_) (by simp) (by simp [SrcSeg.all]; omega)).mono ?_
        · have : i = 0 ∨ i = 1 := by have := (List.getElem?_eq_some_iff.1 hi).1; simp at this; omega
          rcases this with rfl | rfl
          · simp at hi; subst hi; exact HR.out.keep (eal y2.is _)
          · simp at hi; subst hi; exact HR2.out.keep (eal y2.is _)
        rintro e w5 ⟨v5, rfl, ho5, hb5⟩
        have HO5 := Lib.hid ho5
        have HB5 := Lib.hid hb5
        clear ho5 hb5
        go_wp2
        go_ret2
        exact ⟨_, ret_vi E1.out.symm, by rw [E2.out]; have := HO5.out.mono (b' := w.heap.size) (esz (eal y2.is _)); simpa [SrcSeg.all] using this, etr (eal y2.is _) HB5.out⟩
set_option maxHeartbeats 4000000 in
theorem rjoin_any (A B : Option Addr) (p q : List Sgm) (c d : Nat) (w : World) (hm : p.length ≤ 400000) (hm2 : q.length ≤ 400000) (hr : Rd w A 4 Sgc p) (hr2 : Rd w B 4 Sgc q) :
    Calls Try.prog 23 #[.slice A p.length c, .slice B q.length d] w fun e w' => ∃ v, e = .returned (.tuple #[v, .int .i64 (joinE p q)]) ∧ OwnL w' w.heap.size 25 4 Sgc v (joinL p q) ∧ Below w.heap.size w w' := by
  have HM : Hid (p.length ≤ maxLen) := by show _ ≤ _; unfold maxLen; omega
  have HM2 : Hid (q.length ≤ maxLen) := by show _ ≤ _; unfold maxLen; omega
  have HR := Lib.hid hr
  have HR2 := Lib.hid hr2
  clear hr hr2
  obtain ⟨i0, hi, hz0, hz1, hz2⟩ := info_parts seg_info
  cases hv : validB p
  · obtain ⟨e1, e2⟩ := @join_bad p q (by rw [hv]; simp)
    have E1 := Lib.hid e1
    have E2 := Lib.hid e2
    clear e1 e2
    go_enter Try.func23, Try.ntmps23
    go_wp2_with (go_at_call 12; refine (to_after (rvalid_any A p c _ HM.out HR.out)).mono ?_; rintro e w' ⟨y, rfl, rfl⟩)
    go_ret2
    exact ⟨_, ret_vi E1.out.symm, by rw [E2.out]; exact OwnL.nil, y.is⟩
  cases hv2 : validB q
  · obtain ⟨e1, e2⟩ := @join_bad p q (by rw [hv2]; simp)
    have E1 := Lib.hid e1
    have E2 := Lib.hid e2
    clear e1 e2
    go_enter Try.func23, Try.ntmps23
    go_wp2_with (first
      | (go_at_call 12; (with_reducible refine (to_after (rvalid_any A p c _ HM.out HR.out)).mono ?_); rintro e w' ⟨y, rfl, rfl⟩)
      | (go_at_call 12; (with_reducible refine (in_after y (rvalid_any B q d _ HM2.out (HR2.out.keep y.is))).mono ?_); rintro e w' ⟨y2, rfl, rfl⟩))
    go_ret2
    exact ⟨_, ret_vi E1.out.symm, by rw [E2.out]; exact OwnL.nil, y2.is⟩
  have hlp : p.length ≤ 128 := (validB_true.1 hv).1
  have hlq : q.length ≤ 128 := (validB_true.1 hv2).1
  by_cases hn : 0 < p.length ∧ 0 < q.length
  · obtain ⟨n1, n2⟩ := hn
    by_cases hj : lastT p = headF q
    · by_cases hl : p.length + q.length ≤ 128
      · obtain ⟨e1, e2⟩ := join_ok hv hv2 (.inr (.inr hj)) hl
        have HJ := Lib.hid hj
        clear hj
        have E1 := Lib.hid e1
        have E2 := Lib.hid e2
        clear e1 e2
        go_enter Try.func23, Try.ntmps23
        go_wp2_with (first
          | (go_at_call 12; (with_reducible refine (to_after (rvalid_any A p c _ HM.out HR.out)).mono ?_); rintro e w' ⟨y, rfl, rfl⟩)
          | (go_at_call 12; (with_reducible refine (in_after y (rvalid_any B q d _ HM2.out (HR2.out.keep y.is))).mono ?_); rintro e w' ⟨y2, rfl, rfl⟩))
        obtain ⟨b, off, s, rfl, hs, hbs, c0, c1, c2, c3⟩ := rd_seg (k := p.length - 1) HR.out y2.is (by omega)
        obtain ⟨b', off', s', rfl, hs', hbs', d0, d1, d2, d3⟩ := rd_seg (k := 0) HR2.out y2.is (by omega)
        have d0' : y2.val.cell? ⟨b', off', none⟩ = some (.int .i64 s'.from_) := by simpa using d0
        have hne : (s.to_ != s'.from_) = false := by
          have := HJ.out
          rw [last_at hs, head_at hs'] at this
          simpa using this
        clear hs hs'
        refine wp_region_after (by kernel_rfl) (by kernel_rfl) ?_
        repeat (first | go_big_quiet_step (fail))
        refine wpQuiet_nil ?_
        rintro _ ⟨y3, rfl⟩
        go_wp2_with (first
          | (at_builtin
             refine wp_appL (u := w) Sgc_len Sgc_one Try.underlying22 hi hz0 hz1 hz2 rfl (by decide) rfl rfl rfl (OwnL.nil (α := Sgm)) (etr y2.is y3.is) p (some ⟨b, off, none⟩) c (by simp [go_sem]) (HR.out.keep (etr y2.is y3.is)) (by simp; omega) (by simp; unfold maxLen; omega) ?_
             intro v4 w4 H4
             rw [List.nil_append] at H4)
          | (at_builtin
             refine wp_appL (u := w) Sgc_len Sgc_one Try.underlying22 hi hz0 hz1 hz2 rfl (by decide) rfl rfl rfl H4.out.1 H4.out.2.1 q (some ⟨b', off', none⟩) d (by simp [go_sem]) (HR2.out.keep H4.out.2.1) (by omega) (by unfold maxLen; omega) ?_
             intro v5 w5 H5
             obtain ⟨A5, cap5, e5, hr5, hm5⟩ := H5.out.1.rd Sgc_len
             subst e5
             rw [List.length_append]))
        go_ret2
        exact ⟨_, ret_vi E1.out.symm, by rw [E2.out]; have := H5.out.1; simpa using this, H5.out.2.1⟩
      · obtain ⟨e1, e2⟩ := join_big hv hv2 (.inr (.inr hj)) (by omega)
        have HJ := Lib.hid hj
        clear hj
        have E1 := Lib.hid e1
        have E2 := Lib.hid e2
        clear e1 e2
        go_enter Try.func23, Try.ntmps23
        go_wp2_with (first
          | (go_at_call 12; (with_reducible refine (to_after (rvalid_any A p c _ HM.out HR.out)).mono ?_); rintro e w' ⟨y, rfl, rfl⟩)
          | (go_at_call 12; (with_reducible refine (in_after y (rvalid_any B q d _ HM2.out (HR2.out.keep y.is))).mono ?_); rintro e w' ⟨y2, rfl, rfl⟩))
        obtain ⟨b, off, s, rfl, hs, hbs, c0, c1, c2, c3⟩ := rd_seg (k := p.length - 1) HR.out y2.is (by omega)
        obtain ⟨b', off', s', rfl, hs', hbs', d0, d1, d2, d3⟩ := rd_seg (k := 0) HR2.out y2.is (by omega)
        have d0' : y2.val.cell? ⟨b', off', none⟩ = some (.int .i64 s'.from_) := by simpa using d0
        have hne : (s.to_ != s'.from_) = false := by
          have := HJ.out
          rw [last_at hs, head_at hs'] at this
          simpa using this
        clear hs hs'
        refine wp_region_after (by kernel_rfl) (by kernel_rfl) ?_
        repeat (first | go_big_quiet_step (fail))
        refine wpQuiet_nil ?_
        rintro _ ⟨y3, rfl⟩
        go_wp2_with (first
          | (at_builtin
             refine wp_appL (u := w) Sgc_len Sgc_one Try.underlying22 hi hz0 hz1 hz2 rfl (by decide) rfl rfl rfl (OwnL.nil (α := Sgm)) (etr y2.is y3.is) p (some ⟨b, off, none⟩) c (by simp [go_sem]) (HR.out.keep (etr y2.is y3.is)) (by simp; omega) (by simp; unfold maxLen; omega) ?_
             intro v4 w4 H4
             rw [List.nil_append] at H4)
          | (at_builtin
             refine wp_appL (u := w) Sgc_len Sgc_one Try.underlying22 hi hz0 hz1 hz2 rfl (by decide) rfl rfl rfl H4.out.1 H4.out.2.1 q (some ⟨b', off', none⟩) d (by simp [go_sem]) (HR2.out.keep H4.out.2.1) (by omega) (by unfold maxLen; omega) ?_
             intro v5 w5 H5
             obtain ⟨A5, cap5, e5, hr5, hm5⟩ := H5.out.1.rd Sgc_len
             subst e5
             rw [List.length_append]))
        go_ret2
        exact ⟨_, ret_vi E1.out.symm, by rw [E2.out]; exact OwnL.nil, H5.out.2.1⟩
    · obtain ⟨e1, e2⟩ := join_con hv hv2 n1 n2 hj
      have HJ := Lib.hid hj
      clear hj
      have E1 := Lib.hid e1
      have E2 := Lib.hid e2
      clear e1 e2
      go_enter Try.func23, Try.ntmps23
      go_wp2_with (first
        | (go_at_call 12; (with_reducible refine (to_after (rvalid_any A p c _ HM.out HR.out)).mono ?_); rintro e w' ⟨y, rfl, rfl⟩)
        | (go_at_call 12; (with_reducible refine (in_after y (rvalid_any B q d _ HM2.out (HR2.out.keep y.is))).mono ?_); rintro e w' ⟨y2, rfl, rfl⟩))
      obtain ⟨b, off, s, rfl, hs, hbs, c0, c1, c2, c3⟩ := rd_seg (k := p.length - 1) HR.out y2.is (by omega)
      obtain ⟨b', off', s', rfl, hs', hbs', d0, d1, d2, d3⟩ := rd_seg (k := 0) HR2.out y2.is (by omega)
      have d0' : y2.val.cell? ⟨b', off', none⟩ = some (.int .i64 s'.from_) := by simpa using d0
      have hne : (s.to_ != s'.from_) = true := by
        have := HJ.out
        rw [last_at hs, head_at hs'] at this
        simpa using this
      clear hs hs'
      refine wp_region_after (by kernel_rfl) (by kernel_rfl) ?_
      repeat (first | go_big_quiet_step (fail))
      refine wpQuiet_nil ?_
      rintro _ ⟨y3, rfl⟩
      go_wp2
      go_ret2
      exact ⟨_, ret_vi E1.out.symm, by rw [E2.out]; exact OwnL.nil, etr y2.is y3.is⟩
  · have hz : p.length = 0 ∨ q.length = 0 := by omega
    obtain ⟨e1, e2⟩ := join_ok hv hv2 (by omega) (show p.length + q.length ≤ 128 by omega)
    clear hn
    have E1 := Lib.hid e1
    have E2 := Lib.hid e2
    clear e1 e2
    have hL : (p.length : Int) + (q.length : Int) ≤ 128 := by omega
    rcases hz with hz | hz
    · have z2 : decide (0 < p.length) = false := decide_eq_false (by omega)
      clear hz
      go_enter Try.func23, Try.ntmps23
      go_wp2_with (first
        | (go_at_call 12; (with_reducible refine (to_after (rvalid_any A p c _ HM.out HR.out)).mono ?_); rintro e w' ⟨y, rfl, rfl⟩)
        | (go_at_call 12; (with_reducible refine (in_after y (rvalid_any B q d _ HM2.out (HR2.out.keep y.is))).mono ?_); rintro e w' ⟨y2, rfl, rfl⟩))
      refine wp_region_after (by kernel_rfl) (by kernel_rfl) ?_
      repeat (first | go_big_quiet_step (fail))
      refine wpQuiet_nil ?_
      rintro _ ⟨y3, rfl⟩
      go_wp2_with (first
        | (at_builtin
           refine wp_appL (u := w) Sgc_len Sgc_one Try.underlying22 hi hz0 hz1 hz2 rfl (by decide) rfl rfl rfl (OwnL.nil (α := Sgm)) (etr y2.is y3.is) p (A) c (by simp [go_sem]) (HR.out.keep (etr y2.is y3.is)) (by simp; omega) (by simp; unfold maxLen; omega) ?_
           intro v4 w4 H4
           rw [List.nil_append] at H4)
        | (at_builtin
           refine wp_appL (u := w) Sgc_len Sgc_one Try.underlying22 hi hz0 hz1 hz2 rfl (by decide) rfl rfl rfl H4.out.1 H4.out.2.1 q (B) d (by simp [go_sem]) (HR2.out.keep H4.out.2.1) (by omega) (by unfold maxLen; omega) ?_
           intro v5 w5 H5
           obtain ⟨A5, cap5, e5, hr5, hm5⟩ := H5.out.1.rd Sgc_len
           subst e5
           rw [List.length_append]))
      go_ret2
      exact ⟨_, ret_vi E1.out.symm, by rw [E2.out]; have := H5.out.1; simpa using this, H5.out.2.1⟩
    · have z2 : decide (0 < q.length) = false := decide_eq_false (by omega)
      clear hz
      by_cases n1 : 0 < p.length
      all_goals (try have n2 : decide (0 < p.length) = false := decide_eq_false (by omega))
      all_goals (try have n3 : decide (0 < p.length) = true := decide_eq_true (by omega))
      all_goals
        go_enter Try.func23, Try.ntmps23
        go_wp2_with (first
          | (go_at_call 12; (with_reducible refine (to_after (rvalid_any A p c _ HM.out HR.out)).mono ?_); rintro e w' ⟨y, rfl, rfl⟩)
          | (go_at_call 12; (with_reducible refine (in_after y (rvalid_any B q d _ HM2.out (HR2.out.keep y.is))).mono ?_); rintro e w' ⟨y2, rfl, rfl⟩))
        refine wp_region_after (by kernel_rfl) (by kernel_rfl) ?_
        repeat (first | go_big_quiet_step (fail))
        refine wpQuiet_nil ?_
        rintro _ ⟨y3, rfl⟩
        go_wp2_with (first
          | (at_builtin
             refine wp_appL (u := w) Sgc_len Sgc_one Try.underlying22 hi hz0 hz1 hz2 rfl (by decide) rfl rfl rfl (OwnL.nil (α := Sgm)) (etr y2.is y3.is) p (A) c (by simp [go_sem]) (HR.out.keep (etr y2.is y3.is)) (by simp; omega) (by simp; unfold maxLen; omega) ?_
             intro v4 w4 H4
             rw [List.nil_append] at H4)
          | (at_builtin
             refine wp_appL (u := w) Sgc_len Sgc_one Try.underlying22 hi hz0 hz1 hz2 rfl (by decide) rfl rfl rfl H4.out.1 H4.out.2.1 q (B) d (by simp [go_sem]) (HR2.out.keep H4.out.2.1) (by omega) (by unfold maxLen; omega) ?_
             intro v5 w5 H5
             obtain ⟨A5, cap5, e5, hr5, hm5⟩ := H5.out.1.rd Sgc_len
             subst e5
             rw [List.length_append]))
        go_ret2
        exact ⟨_, ret_vi E1.out.symm, by rw [E2.out]; have := H5.out.1; simpa using this, H5.out.2.1⟩
end Go.Proofs.Ytoodehilgogomaa
