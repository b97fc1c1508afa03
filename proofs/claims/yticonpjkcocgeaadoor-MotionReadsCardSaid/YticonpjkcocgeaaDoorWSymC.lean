/- Walks: the library's symMerge of passed balises. Printed by gen_symc.py. -/
import Derived.Test.YticonpjkcocgeaaDoorWSymB
set_option linter.unusedVariables false
set_option linter.unusedSimpArgs false
set_option maxRecDepth 100000
namespace Go.Proofs.YticonpjkcocgeaaDoor
open Go.ChangeShapes Go.WideShapes Go.ChangeAt Go.RowKit Go.Sort
open Sg

theorem list_swap (P R : List Pas) (u v : Pas) : ((P ++ u :: v :: R).set P.length v).set (P.length + 1) u = P ++ v :: u :: R := by
  simp [List.set_append]
theorem list_swap' (P R : List Pas) (u v : Pas) : ((P ++ u :: v :: R).set (P.length + 1) u).set P.length v = P ++ v :: u :: R := by
  simp [List.set_append]
theorem growQ_ext (w : World) (q : Nat) (os : Array Obj) : Below w.heap.size w (grow (w.drewN q) os) := by
  have h0 : (w.drewN q).heap = w.heap := rfl
  refine ⟨rfl, rfl, rfl, ?_, fun j hj => ?_⟩
  · have := size_grow (w.drewN q) os
    rw [h0] at this
    omega
  · rw [heap_grow_old _ _ (by rw [h0]; exact hj), h0]
theorem cmp_ext (a b : Pas) (w : World) : Calls Tryd.prog 36 #[.agg #[.int .i64 a.place, .int .i64 a.id], .agg #[.int .i64 b.place, .int .i64 b.id]] w fun e w' => e = .returned (.int .i64 (cmpP a b)) ∧ Below w.heap.size w w' :=
  (cmpf_any a b w).mono fun e w' ⟨h1, q, os, h2⟩ => ⟨h1, by rw [h2]; exact growQ_ext w q os⟩
theorem cmp_neg (a b : Pas) : decide (cmpP a b < 0) = befP a b := congrFun (congrFun ltOf_cmpP a) b
theorem Own.ext {w w' : World} {b : Nat} {vs : List Value} (h : Own w b vs) (g : Ext w w') : Own w' b vs := h.keep g
section
set_option maxHeartbeats 16000000
/-- The left part is one element. -/
theorem sym_left (g cap n a m b : Nat) (A Y B : List Pas) (x : Pas) (w : World) (hn : n = (A ++ (x :: (Y ++ B))).length) (ha : a = A.length) (hm : m = a + 1) (hb : b = m + Y.length) (hY : SortedP Y) (hO : Own w g ((A ++ (x :: (Y ++ B))).flatMap Pc)) (h6 : n ≤ 1000000) :
    Calls Tryd.prog 94 #[.slice (some ⟨g, 0, none⟩) n cap, .int .i64 a, .int .i64 m, .int .i64 b, .func (.func 36) #[] #[]] w fun e w' => e = .returned (.tuple #[]) ∧ Own w' g ((A ++ (sortP (x :: Y) ++ B)).flatMap Pc) ∧ Below g w w' := by
  have HO := Lib.hid hO
  have HY := Lib.hid hY
  have HEQ : Hid (a = A.length ∧ m = a + 1 ∧ b = m + Y.length ∧ n = A.length + 1 + Y.length + B.length) := ⟨ha, hm, hb, by rw [hn]; simp only [List.length_append, List.length_cons]; omega⟩
  have hbn : b ≤ n := by have := HEQ.out; omega
  have hmb : m ≤ b := by omega
  have ham : a < m := by omega
  have n1 : IntKind.i64.wrap ((m : Int) - (a : Int)) = 1 := by rw [IntWalk.i64_in _ (by omega)]; omega
  have GX : Hid ((A ++ (x :: (Y ++ B)))[a]? = some x) := by show _ = _; rw [ha, List.getElem?_append_right (Nat.le_refl _)]; simp
  have GY : Hid (∀ (t : Nat) y, Y[t]? = some y → (A ++ (x :: (Y ++ B)))[m + t]? = some y) := fun t y h => by
    have hl := (List.getElem?_eq_some_iff.1 h).1
    rw [hm, ha, List.getElem?_append_right (by omega), show A.length + 1 + t - A.length = t + 1 by omega, List.getElem?_cons_succ, List.getElem?_append_left hl]
    exact h
  clear hO hY hn ha hm hb
  go_enter Tryd.func94, Tryd.ntmps94
  go_wp2
  go_loopg [10, 11] (b - m) (fun gg x10 x11 wr => ∃ (i j : Nat), x10 = .int .i64 i ∧ x11 = .int .i64 j ∧ gg = j - i ∧ m ≤ i ∧ i ≤ j ∧ j ≤ b ∧ Hid ((∀ y ∈ Y.take (i - m), befP y x = true) ∧ (∀ y ∈ Y.drop (j - m), befP y x = false)) ∧ Hid (Ext w wr))
  case atStart => exact ⟨m, b, rfl, rfl, by omega, Nat.le_refl _, hmb, Nat.le_refl _, ⟨fun y h => by simp at h, fun y h => by have := HEQ.out; rw [List.drop_eq_nil_of_le (by omega)] at h; simp at h⟩, Ext.refl _⟩
  case round =>
    obtain ⟨wi, rfl⟩ : ∃ wi : World, wi = wr := ⟨_, rfl⟩
    obtain ⟨i, j, rfl, rfl, hg, hmi, hij, hjb, E, X⟩ := hrel
    have HG := Lib.hid hg
    clear hg
    by_cases hlt : i < j
    · have q0 : decide ((i : Int) < (j : Int)) = true := decide_eq_true (by omega)
      obtain ⟨h, hh⟩ : ∃ h, h = (i + j) / 2 := ⟨_, rfl⟩
      have hih : i ≤ h := by omega
      have hhj : h < j := by omega
      have nh : ((i : Int) + (j : Int)) / 2 = (h : Int) := by omega
      obtain ⟨t, ht⟩ : ∃ t, t = h - m := ⟨_, rfl⟩
      have htY : t < Y.length := by have := HEQ.out; omega
      obtain ⟨y, hy⟩ : ∃ y, Y[t]? = some y := ⟨_, List.getElem?_eq_getElem htY⟩
      have hl : (A ++ (x :: (Y ++ B)))[h]? = some y := by have := GY.out t y hy; rwa [ht, show m + (h - m) = h by omega] at this
      obtain ⟨gz, c0, c1⟩ := pas_cells (HO.out.keep X.out) hl
      obtain ⟨_, d0, d1⟩ := pas_cells (HO.out.keep X.out) GX.out
      obtain ⟨cv, hcv⟩ : ∃ cv, cv = cmpP y x := ⟨_, rfl⟩
      have HCV : Hid (decide (cv < 0) = befP y x) := by show _ = _; rw [hcv]; exact cmp_neg y x
      have HCM : Hid (∀ w' : World, Calls Tryd.prog 36 #[.agg #[.int .i64 y.place, .int .i64 y.id], .agg #[.int .i64 x.place, .int .i64 x.id]] w' fun e w2 => e = .returned (.int .i64 cv) ∧ Below w'.heap.size w' w2) := fun w' => by rw [hcv]; exact cmp_ext y x w'
      have hyb : ∀ c, befP y x = c → (c = true → ∀ z ∈ Y.take (h + 1 - m), befP z x = true) ∧ (c = false → ∀ z ∈ Y.drop (h - m), befP z x = false) := fun c hc => by
        subst hc
        refine ⟨fun hc z hz => ?_, fun hc z hz => ?_⟩
        · obtain ⟨k, hk, rfl⟩ := List.getElem_of_mem hz
          rw [List.length_take] at hk
          have hzk : Y[k]? = some (Y.take (h + 1 - m))[k] := by rw [List.getElem_take]; exact List.getElem?_eq_getElem (by omega)
          have := HY.out.get (show k ≤ t by omega) hzk hy
          rw [befP_false] at this; rw [befP_true] at hc ⊢; omega
        · obtain ⟨k, hk, rfl⟩ := List.getElem_of_mem hz
          rw [List.length_drop] at hk
          have hzk : Y[h - m + k]? = some (Y.drop (h - m))[k] := by rw [List.getElem_drop]; exact List.getElem?_eq_getElem (by omega)
          have := HY.out.get (show t ≤ h - m + k by omega) hy hzk
          rw [befP_false] at this hc ⊢; omega
      have HYB := Lib.hid hyb
      have i1 : h < n := by omega
      have i2 : a < n := by omega
      clear hyb hh ht htY hy hl hcv
      cases hc : befP y x
      · have q1 : decide (cv < 0) = false := HCV.out.trans hc
        have HN := Lib.hid ((HYB.out false hc).2 rfl)
        clear hc HYB
        go_upto_region 5 with (fail)
        refine wp_region_after (by kernel_rfl) (by kernel_rfl) ?_
        repeat (first | go_big_quiet_step ((go_at_call 36; exact after_call _ (HCM.out _))))
        refine wpQuiet_nil ?_
        rintro _ ⟨z, rfl⟩
        clear c0 c1 d0 d1
        go_wp2
        go_roundg (h - i)
        case measure => have := HG.out; omega
        case rel => exact ⟨i, h, rfl, rfl, rfl, hmi, hih, by omega, ⟨E.out.1, HN.out⟩, etr X.out z.is⟩
      · have q1 : decide (cv < 0) = true := HCV.out.trans hc
        have HN := Lib.hid ((HYB.out true hc).1 rfl)
        clear hc HYB
        go_upto_region 5 with (fail)
        refine wp_region_after (by kernel_rfl) (by kernel_rfl) ?_
        repeat (first | go_big_quiet_step ((go_at_call 36; exact after_call _ (HCM.out _))))
        refine wpQuiet_nil ?_
        rintro _ ⟨z, rfl⟩
        clear c0 c1 d0 d1
        go_wp2
        go_roundg (j - (h + 1))
        case measure => have := HG.out; omega
        case rel => exact ⟨h + 1, j, by go_num, rfl, rfl, by omega, by omega, hjb, ⟨HN.out, E.out.2⟩, etr X.out z.is⟩
    · have e : i = j := by omega
      subst e
      have q0 : decide ((i : Int) < (i : Int)) = false := by simp
      obtain ⟨i1, hi1⟩ : ∃ i1, i1 = i - 1 := ⟨_, rfl⟩
      have n2 : IntKind.i64.wrap ((i : Int) - 1) = (i1 : Int) := by rw [IntWalk.i64_in _ (by omega)]; omega
      have hai : a ≤ i1 := by omega
      have hin : i1 < b := by omega
      have HI1 : Hid (i1 + 1 = i) := by show _ = _; omega
      have O2 := Lib.hid (HO.out.keep X.out)
      have B2 : Hid (Below g w wi) := X.out.mono (Nat.le_of_lt HO.out.1)
      clear hi1 hlt
      go_wp2
      go_loopg [13] (i1 - a) (fun gg x13 wr => ∃ (k : Nat), x13 = .int .i64 k ∧ gg = i1 - k ∧ a ≤ k ∧ k ≤ i1 ∧ Hid (Own wr g ((A ++ (Y.take (k - a) ++ (x :: (Y.drop (k - a) ++ B)))).flatMap Pc)) ∧ Hid (Below g w wr))
      case atStart => exact ⟨a, rfl, by omega, Nat.le_refl _, hai, by have := O2.out; rw [Nat.sub_self]; exact this, B2.out⟩
      case round =>
        obtain ⟨wj, rfl⟩ : ∃ wj : World, wj = wr := ⟨_, rfl⟩
        obtain ⟨k, rfl, hg, hak, hki, O, BB⟩ := hrel
        have HG2 := Lib.hid hg
        clear hg
        by_cases hlk : k < i1
        · have q1 : decide (k < i1) = true := decide_eq_true hlk
          obtain ⟨s, hs⟩ : ∃ s, s = k - a := ⟨_, rfl⟩
          have hsY : s < Y.length := by have := HEQ.out; have := HI1.out; omega
          obtain ⟨y, hy⟩ : ∃ y, Y[s]? = some y := ⟨_, List.getElem?_eq_getElem hsY⟩
          obtain ⟨_, hye⟩ := List.getElem?_eq_some_iff.1 hy
          obtain ⟨q, hq⟩ : ∃ q, q = k + 1 := ⟨_, rfl⟩
          have hPl : (A ++ Y.take s).length = k := by rw [List.length_append, List.length_take]; have := HEQ.out; omega
          have e1 : A ++ (Y.take (k - a) ++ (x :: (Y.drop (k - a) ++ B))) = (A ++ Y.take s) ++ x :: y :: (Y.drop (s + 1) ++ B) := by
            rw [← hs, List.drop_eq_getElem_cons hsY, hye]; simp
          have e2 : (A ++ Y.take s) ++ y :: x :: (Y.drop (s + 1) ++ B) = A ++ (Y.take (q - a) ++ (x :: (Y.drop (q - a) ++ B))) := by
            rw [show q - a = s + 1 by omega, List.take_succ_eq_append_getElem hsY, hye]; simp
          have O' := O.out
          rw [e1] at O'
          have HO' := Lib.hid O'
          have hlen : ((A ++ Y.take s) ++ x :: y :: (Y.drop (s + 1) ++ B)).length = n := by
            have := HEQ.out
            simp only [List.length_append, List.length_cons, List.length_take, List.length_drop]; omega
          have hx0 : ((A ++ Y.take s) ++ x :: y :: (Y.drop (s + 1) ++ B))[k]? = some x := by rw [List.getElem?_append_right (by omega), hPl]; simp
          have hy0 : ((A ++ Y.take s) ++ x :: y :: (Y.drop (s + 1) ++ B))[q]? = some y := by rw [List.getElem?_append_right (by omega), hPl, hq]; simp
          obtain ⟨gz, c0, c1⟩ := pas_cells O' hx0
          obtain ⟨_, d0, d1⟩ := pas_cells O' hy0
          have HSW : Hid ((((A ++ Y.take s) ++ x :: y :: (Y.drop (s + 1) ++ B)).set k y).set q x = A ++ (Y.take (q - a) ++ (x :: (Y.drop (q - a) ++ B)))) := by
            show _ = _
            rw [← e2, hq, ← hPl]; exact list_swap _ _ _ _
          have HLN : Hid (k < ((A ++ Y.take s) ++ x :: y :: (Y.drop (s + 1) ++ B)).length ∧ q < ((A ++ Y.take s) ++ x :: y :: (Y.drop (s + 1) ++ B)).length) := by rw [hlen]; exact ⟨by omega, by omega⟩
          have n3 : IntKind.i64.wrap ((k : Int) + 1) = (q : Int) := by rw [IntWalk.i64_in _ (by omega)]; omega
          have j1 : k < n := by omega
          have j2 : q < n := by omega
          have a1 : k * 2 ≠ q * 2 := by omega
          have a2 : k * 2 + 1 ≠ q * 2 := by omega
          have a3 : k * 2 ≠ q * 2 + 1 := by omega
          have a4 : k * 2 + 1 ≠ q * 2 + 1 := by omega
          have f0 := O'.2.2 (k * 2)
          have f1 := O'.2.2 (k * 2 + 1)
          have f2 := O'.2.2 (q * 2)
          have f3 := O'.2.2 (q * 2 + 1)
          have HQ : Hid (q = k + 1) := hq
          have hql : a ≤ q ∧ q ≤ i1 := by omega
          clear hs hsY hy hye hPl e1 e2 O' hlen hx0 hy0 hq
          go_upto_region 11 with (fail)
          go_big_region
          obtain ⟨w9, hw, O9, B9⟩ := swap_pas x y HO'.out HLN.out.1 HLN.out.2
          rw [← hw]
          rw [HSW.out] at O9
          have HO9 := Lib.hid O9
          have HB9 := Lib.hid (BB.out.trans B9)
          clear hw O9 B9 a1 a2 a3 a4 f0 f1 f2 f3 c0 c1 d0 d1
          go_wp2
          go_roundg (i1 - q)
          case measure => have := HG2.out; have := HQ.out; omega
          case rel => exact ⟨q, rfl, rfl, hql.1, hql.2, HO9.out, HB9.out⟩
        · have e : k = i1 := by omega
          have q1 : decide (k < i1) = false := decide_eq_false hlk
          have HF : Hid (A ++ (Y.take (k - a) ++ (x :: (Y.drop (k - a) ++ B))) = A ++ (sortP (x :: Y) ++ B)) := by
            show _ = _
            have hk : k - a = i - m := by have := HEQ.out; have := HI1.out; omega
            have := mrg_left (x := x) (Y1 := Y.take (i - m)) (Y2 := Y.drop (i - m)) (by rw [List.take_append_drop]; exact HY.out) E.out.1 E.out.2
            rw [List.take_append_drop] at this
            rw [hk, ← this]; simp
          have HO8 : Hid (Own wj g ((A ++ (sortP (x :: Y) ++ B)).flatMap Pc)) := by rw [← HF.out]; exact O.out
          clear e hlk
          go_wp2
          (try simp only [Exit.inBlock, Exit.then])
          exact bodyPost_ret (v := .tuple #[]) (by simp [results, Tryd.results94, go_sem]) rfl ⟨rfl, HO8.out, BB.out⟩
end
end Go.Proofs.YticonpjkcocgeaaDoor
