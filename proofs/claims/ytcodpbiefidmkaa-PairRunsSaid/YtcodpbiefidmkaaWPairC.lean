/- Walks of package pair: Ask. -/
import Derived.Test.YtcodpbiefidmkaaWPairB
import Derived.Test.YtcodpbiefidmkaaLibPr
import Derived.Test.YtcodpbiefidmkaaWWords
import Derived.Test.YtcodpbiefidmkaaWTrain
import Derived.Test.YtcodpbiefidmkaaHead
set_option linter.unusedVariables false
set_option linter.unusedSimpArgs false
namespace Go.Proofs.Ytcodpbiefidmkaa
open Go.ChangeShapes Go.WideShapes Go.ChangeAt Go.RowKit
open Sg

theorem ret_vi {v : Value} {k : IntKind} {a b : Int} (h : a = b) : Ending.returned (.tuple #[v, .int k a]) = .returned (.tuple #[v, .int k b]) := by rw [h]
theorem ask_bad {l : List Prq} {p : Prq} (h : ¬ okAsk p) : askE l p = 1 ∧ askL l p = [] := by
  have e : askE l p = 1 := by rw [askE, if_pos h]
  exact ⟨e, by rw [askL, e, if_neg (by decide)]⟩
theorem ask_dup {l : List Prq} {p : Prq} {i : Nat} (h : okAsk p) (hi : idxO p.kind p.subject l = some i) : askE l p = 8 ∧ askL l p = [] := by
  have e : askE l p = 8 := by rw [askE, if_neg (fun k => k h), hi]; rfl
  exact ⟨e, by rw [askL, e, if_neg (by decide)]⟩
theorem ask_full {l : List Prq} {p : Prq} (h : okAsk p) (hi : idxO p.kind p.subject l = none) (hl : 16 ≤ l.length) : askE l p = 16 ∧ askL l p = [] := by
  have e : askE l p = 16 := by rw [askE, if_neg (fun k => k h), hi, if_neg (by simp), if_pos hl]
  exact ⟨e, by rw [askL, e, if_neg (by decide)]⟩
theorem ask_ok {l : List Prq} {p : Prq} (h : okAsk p) (hi : idxO p.kind p.subject l = none) (hl : ¬ 16 ≤ l.length) : askE l p = 0 ∧ askL l p = l ++ [p] := by
  have e : askE l p = 0 := by rw [askE, if_neg (fun k => k h), hi, if_neg (by simp), if_neg hl]
  exact ⟨e, by rw [askL, e, if_pos rfl]⟩
theorem ask_key {p : Prq} (h : ¬ okAsk p) : (p.kind < 1) ∨ (decide (p.kind < 1) = false ∧ 8 < p.kind) ∨ (decide (p.kind < 1) = false ∧ decide (8 < p.kind) = false ∧ p.subject < 0) ∨ (decide (p.kind < 1) = false ∧ decide (8 < p.kind) = false ∧ decide (p.subject < 0) = false ∧ p.since < 0) ∨
    (decide (p.kind < 1) = false ∧ decide (8 < p.kind) = false ∧ decide (p.subject < 0) = false ∧ decide (p.since < 0) = false ∧ nameB p.by_.data.toList = false) := by
  simp only [decide_eq_false_iff_not]
  by_cases a1 : p.kind < 1
  · exact .inl a1
  by_cases a2 : 8 < p.kind
  · exact .inr (.inl ⟨a1, a2⟩)
  by_cases a3 : p.subject < 0
  · exact .inr (.inr (.inl ⟨a1, a2, a3⟩))
  by_cases a4 : p.since < 0
  · exact .inr (.inr (.inr (.inl ⟨a1, a2, a3, a4⟩)))
  cases hn : nameB p.by_.data.toList
  · exact .inr (.inr (.inr (.inr ⟨a1, a2, a3, a4, rfl⟩)))
  · exact absurd (show okAsk p from ⟨by omega, by omega, by omega, by omega, hn⟩) h
theorem ask_yes {p : Prq} (h : okAsk p) : decide (p.kind < 1) = false ∧ decide (8 < p.kind) = false ∧ decide (p.subject < 0) = false ∧ decide (p.since < 0) = false ∧ nameB p.by_.data.toList = true := by
  obtain ⟨h1, h2, h3, h4, h5⟩ := h
  simp only [decide_eq_false_iff_not]
  exact ⟨by omega, by omega, by omega, by omega, h5⟩
set_option maxHeartbeats 8000000 in
theorem ask_any (A : Option Addr) (l : List Prq) (c : Nat) (p : Prq) (w : World) (hm : l.length ≤ 400000) (hp : PrqI p) (hr : Rd w A 4 Prc l) :
    Calls Try.prog 10 #[.slice A l.length c, .agg #[.int .i64 p.kind, .int .i64 p.subject, .int .i64 p.since, .string p.by_]] w fun e w' => ∃ v, e = .returned (.tuple #[v, .int .i64 (askE l p)]) ∧ OwnL w' w.heap.size 24 4 Prc v (askL l p) ∧ Below w.heap.size w w' := by
  have HM : Hid (l.length ≤ maxLen) := by show _ ≤ _; unfold maxLen; omega
  have HR := Lib.hid hr
  have HP := Lib.hid hp
  clear hr hp
  obtain ⟨i0, hi, hz0, hz1, hz2⟩ := info_parts inf_Pr
  by_cases ho : okAsk p
  · obtain ⟨q1, q2, q3, q4, q5⟩ := ask_yes ho
    have HO := Lib.hid ho
    cases hx : idxO p.kind p.subject l with
    | some i =>
      obtain ⟨e1, e2⟩ := ask_dup (l := l) ho hx
      have E1 := Lib.hid e1
      have E2 := Lib.hid e2
      have HX : Hid (idxV p.kind p.subject l = i) := idxV_some hx
      clear e1 e2 hx ho
      go_enter Try.func10, Try.ntmps10
      go_wp2_with (go_at_call 18; refine (to_after (wname_any p.by_ _ HP.out.2.2.2)).mono ?_; rintro e w' ⟨y, rfl, rfl⟩)
      refine (in_after y (index_any A l c p.kind p.subject _ HM.out (HR.out.keep (etr (eal (Ext.refl _) _) y.is)))).mono ?_
      rintro e w' ⟨y2, rfl, rfl⟩
      rw [HX.out]
      have hi0 : (0 : Int) ≤ (i : Int) := by omega
      go_wp2_with fail
      go_ret2
      exact ⟨_, ret_vi E1.out.symm, by rw [E2.out]; exact OwnL.nil, etr (eal (Ext.refl _) _) y2.is⟩
    | none =>
      have HX : Hid (idxV p.kind p.subject l = -1) := idxV_none hx
      by_cases hl : 16 ≤ l.length
      · obtain ⟨e1, e2⟩ := ask_full ho hx hl
        have E1 := Lib.hid e1
        have E2 := Lib.hid e2
        have hl' : (16 : Int) ≤ (l.length : Int) := by omega
        clear e1 e2 hx ho
        go_enter Try.func10, Try.ntmps10
        go_wp2_with (go_at_call 18; refine (to_after (wname_any p.by_ _ HP.out.2.2.2)).mono ?_; rintro e w' ⟨y, rfl, rfl⟩)
        refine (in_after y (index_any A l c p.kind p.subject _ HM.out (HR.out.keep (etr (eal (Ext.refl _) _) y.is)))).mono ?_
        rintro e w' ⟨y2, rfl, rfl⟩
        rw [HX.out]
        go_wp2_with fail
        go_ret2
        exact ⟨_, ret_vi E1.out.symm, by rw [E2.out]; exact OwnL.nil, etr (eal (Ext.refl _) _) y2.is⟩
      · obtain ⟨e1, e2⟩ := ask_ok ho hx hl
        have E1 := Lib.hid e1
        have E2 := Lib.hid e2
        have hl' : decide ((16 : Int) ≤ (l.length : Int)) = false := decide_eq_false (by omega)
        clear e1 e2 hx ho
        go_enter Try.func10, Try.ntmps10
        go_wp2_with (go_at_call 18; refine (to_after (wname_any p.by_ _ HP.out.2.2.2)).mono ?_; rintro e w' ⟨y, rfl, rfl⟩)
        refine (in_after y (index_any A l c p.kind p.subject _ HM.out (HR.out.keep (etr (eal (Ext.refl _) _) y.is)))).mono ?_
        rintro e w' ⟨y2, rfl, rfl⟩
        rw [HX.out]
        have z2 : w.heap.size < y2.val.heap.size := by have := y2.is.size; simp at this; omega
        have HB2 := Lib.hid (etr (eal (Ext.refl w) _) y2.is)
        go_wp2_with fail
        refine wp_region_head 4 [0, 2] 2 (by kernel_rfl) (by kernel_rfl) (fun _ _ d _ _ h => by cases d <;> exact h) (by kernel_rfl) (by kernel_rfl) (by decide) (by kernel_rfl) rfl ?_
        repeat (refine wpE_step rfl (fun K hK => ?_); go_simp; (refine hK _ ?_; clear hK K))
        refine wpE_nil ?_
        intro x
        have HBx := Lib.hid (etr HB2.out x.is)
        refine headR_ready (rs := [1, 3]) (by kernel_rfl) (by simp) (AllH.cons (by decide) rfl (fun K hK => ?_) (AllH.cons (by decide) rfl (fun K hK => ?_) AllH.nil))
        · go_simp
          go_wp2_with (go_at_call 20; refine (clone_Pr A l c _ (by omega) (HR.out.keep HBx.out)).mono ?_; rintro e w5 ⟨v5, rfl, ho5, hb5⟩; have HO5 := Lib.hid ho5; have HB5 := Lib.hid hb5; clear ho5 hb5)
          refine hK _ _ HB5.out (fun z => ?_)
          clear hK K
          refine headR_ready (rs := [3]) (by kernel_rfl) (by simp) (AllH.cons (by decide) rfl (fun K hK => ?_) AllH.nil)
          go_simp
          refine hK _ _ (eal (Ext.refl _) _) (fun z2 => ?_)
          clear hK K
          refine headR_tail (by kernel_rfl) ?_
          have HB9 := Lib.hid (etr (eal (etr (etr HBx.out HB5.out) z.is) _) z2.is)
          have HO9 := Lib.hid ((((HO5.out.keep z.is).keep (eal (Ext.refl _) (.cells #[.int .i64 p.kind, .int .i64 p.subject, .int .i64 p.since, .string p.by_] 24))).keep z2.is).mono (b' := w.heap.size) (esz HBx.out))
          have HC9 : Hid (CellsAt z2.val z.val.heap.size (Prc p)) := (CellsAt.new rfl).keep z2.is
          simp only [List.drop_succ_cons, List.drop_zero]
          go_wp2_with (at_builtin
                       refine wp_appE (u := w) Prc_len Prc_one Try.underlying22 hi hz0 hz1 hz2 rfl (by decide) rfl rfl rfl HO9.out HB9.out p z.val.heap.size (by simp [go_sem]) HC9.out (by omega) (by unfold maxLen; omega) ?_
                       intro v1 w1 H1)
          go_ret2
          exact ⟨_, ret_vi E1.out.symm, by rw [E2.out]; exact H1.out.1, H1.out.2.1⟩
        · go_simp
          refine hK _ _ (eal (Ext.refl _) _) (fun z => ?_)
          clear hK K
          refine headR_ready (rs := [1]) (by kernel_rfl) (by simp) (AllH.cons (by decide) rfl (fun K hK => ?_) AllH.nil)
          have HBz := Lib.hid (etr (eal HBx.out (.cells #[.int .i64 p.kind, .int .i64 p.subject, .int .i64 p.since, .string p.by_] 24)) z.is)
          go_simp
          go_wp2_with (go_at_call 20; refine (clone_Pr A l c _ (by omega) (HR.out.keep HBz.out)).mono ?_; rintro e w5 ⟨v5, rfl, ho5, hb5⟩; have HO5 := Lib.hid ho5; have HB5 := Lib.hid hb5; clear ho5 hb5)
          refine hK _ _ HB5.out (fun z2 => ?_)
          clear hK K
          refine headR_tail (by kernel_rfl) ?_
          have HB9 := Lib.hid (etr (etr HBz.out HB5.out) z2.is)
          have HO9 := Lib.hid ((HO5.out.keep z2.is).mono (b' := w.heap.size) (esz HBz.out))
          have HC9 : Hid (CellsAt z2.val x.val.heap.size (Prc p)) := (((CellsAt.new rfl).keep z.is).keep HB5.out).keep z2.is
          simp only [List.drop_succ_cons, List.drop_zero]
          go_wp2_with (at_builtin
                       refine wp_appE (u := w) Prc_len Prc_one Try.underlying22 hi hz0 hz1 hz2 rfl (by decide) rfl rfl rfl HO9.out HB9.out p x.val.heap.size (by simp [go_sem]) HC9.out (by omega) (by unfold maxLen; omega) ?_
                       intro v1 w1 H1)
          go_ret2
          exact ⟨_, ret_vi E1.out.symm, by rw [E2.out]; exact H1.out.1, H1.out.2.1⟩
  · obtain ⟨e1, e2⟩ := @ask_bad l p ho
    have E1 := Lib.hid e1
    have E2 := Lib.hid e2
    have key := ask_key ho
    clear e1 e2 ho
    rcases key with k1 | ⟨k1, k2⟩ | ⟨k1, k2, k3⟩ | ⟨k1, k2, k3, k4⟩ | ⟨k1, k2, k3, k4, k5⟩
    all_goals
      go_enter Try.func10, Try.ntmps10
      go_wp2_with (go_at_call 18; refine (to_after (wname_any p.by_ _ HP.out.2.2.2)).mono ?_; rintro e w' ⟨y, rfl, rfl⟩)
      go_ret2
      first
        | exact ⟨_, ret_vi E1.out.symm, by rw [E2.out]; exact OwnL.nil, eal (Ext.refl _) _⟩
        | exact ⟨_, ret_vi E1.out.symm, by rw [E2.out]; exact OwnL.nil, etr (eal (Ext.refl _) _) y.is⟩
end Go.Proofs.Ytcodpbiefidmkaa
