/- Walks: the library's symMerge of passed balises, one element on the right. Printed by gen_symd.py. -/
import Derived.Test.YticonpjkcocgeaaDoorWSymC
set_option linter.unusedVariables false
set_option linter.unusedSimpArgs false
set_option maxRecDepth 100000
namespace Go.Proofs.YticonpjkcocgeaaDoor
open Go.ChangeShapes Go.WideShapes Go.ChangeAt Go.RowKit Go.Sort
open Sg

section
set_option maxHeartbeats 16000000
/-- The right part is one element, the left one is more. -/
theorem sym_right (g cap n a m b : Nat) (A X B : List Pas) (y : Pas) (w : World) (hn : n = (A ++ (X ++ (y :: B))).length) (ha : a = A.length) (hm : m = a + X.length) (hb : b = m + 1) (hX2 : 2 ≤ X.length) (hX : SortedP X) (hO : Own w g ((A ++ (X ++ (y :: B))).flatMap Pc)) (h6 : n ≤ 1000000) :
    Calls Tryd.prog 94 #[.slice (some ⟨g, 0, none⟩) n cap, .int .i64 a, .int .i64 m, .int .i64 b, .func (.func 36) #[] #[]] w fun e w' => e = .returned (.tuple #[]) ∧ Own w' g ((A ++ (sortP (X ++ [y]) ++ B)).flatMap Pc) ∧ Below g w w' := by
  have HO := Lib.hid hO
  have HX := Lib.hid hX
  have HEQ : Hid (a = A.length ∧ m = a + X.length ∧ b = m + 1 ∧ n = A.length + X.length + 1 + B.length) := ⟨ha, hm, hb, by rw [hn]; simp only [List.length_append, List.length_cons]; omega⟩
  have hbn : b ≤ n := by have := HEQ.out; omega
  have hmb : m < b := by omega
  have ham : a < m := by omega
  obtain ⟨d, hd⟩ : ∃ d, d = X.length := ⟨_, rfl⟩
  have n1 : IntKind.i64.wrap ((m : Int) - (a : Int)) = (d : Int) := by rw [IntWalk.i64_in _ (by omega)]; omega
  have n2 : IntKind.i64.wrap ((b : Int) - (m : Int)) = 1 := by rw [IntWalk.i64_in _ (by omega)]; omega
  have qd : ((d : Int) == 1) = false := beq_eq_false_iff_ne.2 (by omega)
  have qd2 : (d == 1) = false := beq_eq_false_iff_ne.2 (by omega)
  have GY : Hid ((A ++ (X ++ (y :: B)))[m]? = some y) := by show _ = _; rw [List.getElem?_append_right (by omega), List.getElem?_append_right (by omega), show m - A.length - X.length = 0 by omega]; rfl
  have GX : Hid (∀ (t : Nat) x, X[t]? = some x → (A ++ (X ++ (y :: B)))[a + t]? = some x) := fun t x h => by
    have hl := (List.getElem?_eq_some_iff.1 h).1
    rw [ha, List.getElem?_append_right (by omega), show A.length + t - A.length = t by omega, List.getElem?_append_left hl]
    exact h
  clear hO hX hn ha hm hb hd hX2
  go_enter Tryd.func94, Tryd.ntmps94
  go_wp2
  go_loopg [14, 15] (m - a) (fun gg x10 x11 wr => ∃ (i j : Nat), x10 = .int .i64 i ∧ x11 = .int .i64 j ∧ gg = j - i ∧ a ≤ i ∧ i ≤ j ∧ j ≤ m ∧ Hid ((∀ x ∈ X.take (i - a), befP y x = false) ∧ (∀ x ∈ X.drop (j - a), befP y x = true)) ∧ Hid (Ext w wr))
  case atStart => exact ⟨a, m, rfl, rfl, by omega, Nat.le_refl _, by omega, Nat.le_refl _, ⟨fun x h => by simp at h, fun x h => by have := HEQ.out; rw [List.drop_eq_nil_of_le (by omega)] at h; simp at h⟩, Ext.refl _⟩
  case round =>
    obtain ⟨wi, rfl⟩ : ∃ wi : World, wi = wr := ⟨_, rfl⟩
    obtain ⟨i, j, rfl, rfl, hg, hmi, hij, hjb, E, XE⟩ := hrel
    have HG := Lib.hid hg
    clear hg
    by_cases hlt : i < j
    · have q0 : decide ((i : Int) < (j : Int)) = true := decide_eq_true (by omega)
      obtain ⟨h, hh⟩ : ∃ h, h = (i + j) / 2 := ⟨_, rfl⟩
      have hih : i ≤ h := by omega
      have hhj : h < j := by omega
      have nh : ((i : Int) + (j : Int)) / 2 = (h : Int) := by omega
      obtain ⟨t, ht⟩ : ∃ t, t = h - a := ⟨_, rfl⟩
      have htX : t < X.length := by have := HEQ.out; omega
      obtain ⟨x, hx⟩ : ∃ x, X[t]? = some x := ⟨_, List.getElem?_eq_getElem htX⟩
      have hl : (A ++ (X ++ (y :: B)))[h]? = some x := by have := GX.out t x hx; rwa [ht, show a + (h - a) = h by omega] at this
      obtain ⟨gz, c0, c1⟩ := pas_cells (HO.out.keep XE.out) hl
      obtain ⟨_, d0, d1⟩ := pas_cells (HO.out.keep XE.out) GY.out
      obtain ⟨cv, hcv⟩ : ∃ cv, cv = cmpP y x := ⟨_, rfl⟩
      have HCV : Hid (decide (cv < 0) = befP y x) := by show _ = _; rw [hcv]; exact cmp_neg y x
      have HCM : Hid (∀ w' : World, Calls Tryd.prog 36 #[.agg #[.int .i64 y.place, .int .i64 y.id], .agg #[.int .i64 x.place, .int .i64 x.id]] w' fun e w2 => e = .returned (.int .i64 cv) ∧ Below w'.heap.size w' w2) := fun w' => by rw [hcv]; exact cmp_ext y x w'
      have hyb : ∀ c, befP y x = c → (c = false → ∀ z ∈ X.take (h + 1 - a), befP y z = false) ∧ (c = true → ∀ z ∈ X.drop (h - a), befP y z = true) := fun c hc => by
        subst hc
        refine ⟨fun hc z hz => ?_, fun hc z hz => ?_⟩
        · obtain ⟨k, hk, rfl⟩ := List.getElem_of_mem hz
          rw [List.length_take] at hk
          have hzk : X[k]? = some (X.take (h + 1 - a))[k] := by rw [List.getElem_take]; exact List.getElem?_eq_getElem (by omega)
          have := HX.out.get (show k ≤ t by omega) hzk hx
          rw [befP_false] at this hc ⊢; omega
        · obtain ⟨k, hk, rfl⟩ := List.getElem_of_mem hz
          rw [List.length_drop] at hk
          have hzk : X[h - a + k]? = some (X.drop (h - a))[k] := by rw [List.getElem_drop]; exact List.getElem?_eq_getElem (by omega)
          have := HX.out.get (show t ≤ h - a + k by omega) hx hzk
          rw [befP_false] at this; rw [befP_true] at hc ⊢; omega
      have HYB := Lib.hid hyb
      have i1 : h < n := by omega
      have i2 : m < n := by omega
      clear hyb hh ht htX hx hl hcv
      cases hc : befP y x
      · have q1 : decide (cv < 0) = false := HCV.out.trans hc
        have HN := Lib.hid ((HYB.out false hc).1 rfl)
        clear hc HYB
        go_upto_region 17 with (fail)
        refine wp_region_after (by kernel_rfl) (by kernel_rfl) ?_
        repeat (first | go_big_quiet_step ((go_at_call 36; exact after_call _ (HCM.out _))))
        refine wpQuiet_nil ?_
        rintro _ ⟨z, rfl⟩
        clear c0 c1 d0 d1
        go_wp2
        go_roundg (j - (h + 1))
        case measure => have := HG.out; omega
        case rel => exact ⟨h + 1, j, by go_num, rfl, rfl, by omega, by omega, hjb, ⟨HN.out, E.out.2⟩, etr XE.out z.is⟩
      · have q1 : decide (cv < 0) = true := HCV.out.trans hc
        have HN := Lib.hid ((HYB.out true hc).2 rfl)
        clear hc HYB
        go_upto_region 17 with (fail)
        refine wp_region_after (by kernel_rfl) (by kernel_rfl) ?_
        repeat (first | go_big_quiet_step ((go_at_call 36; exact after_call _ (HCM.out _))))
        refine wpQuiet_nil ?_
        rintro _ ⟨z, rfl⟩
        clear c0 c1 d0 d1
        go_wp2
        go_roundg (h - i)
        case measure => have := HG.out; omega
        case rel => exact ⟨i, h, rfl, rfl, rfl, hmi, hih, by omega, ⟨E.out.1, HN.out⟩, etr XE.out z.is⟩
    · have e : i = j := by omega
      subst e
      have q0 : decide ((i : Int) < (i : Int)) = false := by simp
      have O2 := Lib.hid (HO.out.keep XE.out)
      have B2 : Hid (Below g w wi) := XE.out.mono (Nat.le_of_lt HO.out.1)
      have HST : Hid (Own wi g ((A ++ (X.take (m - a) ++ (y :: (X.drop (m - a) ++ B)))).flatMap Pc)) := by
        have hma : m - a = X.length := by have := HEQ.out; omega
        rw [hma, List.take_length, List.drop_length]
        exact O2.out
      clear hlt
      go_wp2
      go_loopg [17] (m - i) (fun gg x13 wr => ∃ (k : Nat), x13 = .int .i64 k ∧ gg = k - i ∧ i ≤ k ∧ k ≤ m ∧ Hid (Own wr g ((A ++ (X.take (k - a) ++ (y :: (X.drop (k - a) ++ B)))).flatMap Pc)) ∧ Hid (Below g w wr))
      case atStart => exact ⟨m, rfl, rfl, by omega, Nat.le_refl _, HST.out, B2.out⟩
      case round =>
        obtain ⟨wj, rfl⟩ : ∃ wj : World, wj = wr := ⟨_, rfl⟩
        obtain ⟨k, rfl, hg, hak, hki, O, BB⟩ := hrel
        have HG2 := Lib.hid hg
        clear hg
        by_cases hlk : i < k
        · have q1 : decide (i < k) = true := decide_eq_true hlk
          obtain ⟨q, hq⟩ : ∃ q, q = k - 1 := ⟨_, rfl⟩
          obtain ⟨s, hs⟩ : ∃ s, s = q - a := ⟨_, rfl⟩
          have hsX : s < X.length := by have := HEQ.out; omega
          obtain ⟨x, hx⟩ : ∃ x, X[s]? = some x := ⟨_, List.getElem?_eq_getElem hsX⟩
          obtain ⟨_, hxe⟩ := List.getElem?_eq_some_iff.1 hx
          have hPl : (A ++ X.take s).length = q := by rw [List.length_append, List.length_take]; have := HEQ.out; omega
          have e1 : A ++ (X.take (k - a) ++ (y :: (X.drop (k - a) ++ B))) = (A ++ X.take s) ++ x :: y :: (X.drop (s + 1) ++ B) := by
            rw [show k - a = s + 1 by omega, List.take_succ_eq_append_getElem hsX, hxe]; simp
          have e2 : (A ++ X.take s) ++ y :: x :: (X.drop (s + 1) ++ B) = A ++ (X.take (q - a) ++ (y :: (X.drop (q - a) ++ B))) := by
            rw [← hs, List.drop_eq_getElem_cons hsX, hxe]; simp
          have O' := O.out
          rw [e1] at O'
          have HO' := Lib.hid O'
          have hkq : k = q + 1 := by omega
          have hlen : ((A ++ X.take s) ++ x :: y :: (X.drop (s + 1) ++ B)).length = n := by
            have := HEQ.out
            simp only [List.length_append, List.length_cons, List.length_take, List.length_drop]; omega
          have hx0 : ((A ++ X.take s) ++ x :: y :: (X.drop (s + 1) ++ B))[q]? = some x := by rw [List.getElem?_append_right (by omega), hPl]; simp
          have hy0 : ((A ++ X.take s) ++ x :: y :: (X.drop (s + 1) ++ B))[k]? = some y := by rw [List.getElem?_append_right (by omega), hPl, hkq]; simp
          obtain ⟨gz, c0, c1⟩ := pas_cells O' hx0
          obtain ⟨_, d0, d1⟩ := pas_cells O' hy0
          have HSW : Hid ((((A ++ X.take s) ++ x :: y :: (X.drop (s + 1) ++ B)).set k x).set q y = A ++ (X.take (q - a) ++ (y :: (X.drop (q - a) ++ B)))) := by
            show _ = _
            rw [← e2, hkq, ← hPl]; exact list_swap' _ _ _ _
          have HLN : Hid (k < ((A ++ X.take s) ++ x :: y :: (X.drop (s + 1) ++ B)).length ∧ q < ((A ++ X.take s) ++ x :: y :: (X.drop (s + 1) ++ B)).length) := by rw [hlen]; exact ⟨by omega, by omega⟩
          have n3 : IntKind.i64.wrap ((k : Int) - 1) = (q : Int) := by rw [IntWalk.i64_in _ (by omega)]; omega
          have j1 : k < n := by omega
          have j2 : q < n := by omega
          have a1 : k * 2 ≠ q * 2 := by omega
          have a2 : k * 2 + 1 ≠ q * 2 := by omega
          have a3 : k * 2 ≠ q * 2 + 1 := by omega
          have a4 : k * 2 + 1 ≠ q * 2 + 1 := by omega
          have f0 := O'.2.2 (k * 2)
          have f1 := O'.2.2 (k * 2 + 1)
          have f2 := O'.2.2 (q * 2)
          have f3 := O'.2.2 (q * 2 + 1)
          have HQ : Hid (k = q + 1) := hkq
          have hql : i ≤ q ∧ q ≤ m := by omega
          clear hs hsX hx hxe hPl e1 e2 O' hlen hx0 hy0 hq hkq
          go_upto_region 23 with (fail)
          go_big_region
          obtain ⟨w9, hw, O9, B9⟩ := swap_pas y x HO'.out HLN.out.1 HLN.out.2
          rw [← hw]
          rw [HSW.out] at O9
          have HO9 := Lib.hid O9
          have HB9 := Lib.hid (BB.out.trans B9)
          clear hw O9 B9 a1 a2 a3 a4 f0 f1 f2 f3 c0 c1 d0 d1
          go_wp2
          go_roundg (q - i)
          case measure => have := HG2.out; have := HQ.out; omega
          case rel => exact ⟨q, rfl, rfl, hql.1, hql.2, HO9.out, HB9.out⟩
        · have e : k = i := by omega
          have q1 : decide (i < k) = false := decide_eq_false hlk
          have HF : Hid (A ++ (X.take (k - a) ++ (y :: (X.drop (k - a) ++ B))) = A ++ (sortP (X ++ [y]) ++ B)) := by
            show _ = _
            have := mrg_right (y := y) (X1 := X.take (i - a)) (X2 := X.drop (i - a)) (by rw [List.take_append_drop]; exact HX.out) E.out.1 E.out.2
            rw [List.take_append_drop] at this
            rw [e, ← this]; simp
          have HO8 : Hid (Own wj g ((A ++ (sortP (X ++ [y]) ++ B)).flatMap Pc)) := by rw [← HF.out]; exact O.out
          clear e hlk
          go_wp2
          (try simp only [Exit.inBlock, Exit.then])
          exact bodyPost_ret (v := .tuple #[]) (by simp [results, Tryd.results94, go_sem]) rfl ⟨rfl, HO8.out, BB.out⟩
end
end Go.Proofs.YticonpjkcocgeaaDoor
