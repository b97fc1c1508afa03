/- Walks of package odometer and of its reference, continued: what each function returns. -/
import Derived.Test.YthkknagicdanfaaWOdo
set_option linter.unusedVariables false
set_option linter.unusedSimpArgs false
namespace Go.Proofs.Ythkknagicdanfaa
open Go.ChangeShapes Go.WideShapes Go.ChangeAt Go.RowKit
open Sg

theorem es_ret {e e' : Es} (h : e = e') : Ending.returned (.agg #[.int .i64 e.min, .int .i64 e.max, .int .i64 e.speed]) = .returned (.agg #[.int .i64 e'.min, .int .i64 e'.max, .int .i64 e'.speed]) := by rw [h]
theorem radd_any (T : Tr) (E : Es) (m : Int) (w : World) (hc : 0 ≤ T.cons ∧ T.cons ≤ 500) (hr : 0 ≤ T.rate ∧ T.rate ≤ 100) (h1 : -1073741824 ≤ E.min ∧ E.min ≤ 1073741824) (h2 : -1073741824 ≤ E.max ∧ E.max ≤ 1073741824) :
    Calls Try.prog 18 #[.agg #[.int .i64 T.id, .string T.name, .int .i64 T.len, .int .i64 T.speed, .int .i64 T.accel, .int .i64 T.service, .int .i64 T.emergency, .int .i64 T.delay, .int .i64 T.cons, .int .i64 T.rate], .agg #[.int .i64 E.min, .int .i64 E.max, .int .i64 E.speed], .int .i64 m] w fun e w' => e = .returned (.agg #[.int .i64 (addV T.cons T.rate E m).min, .int .i64 (addV T.cons T.rate E m).max, .int .i64 (addV T.cons T.rate E m).speed]) ∧ Below w.heap.size w w' := by
  obtain ⟨k, hk, k1, k2⟩ : ∃ k, k = clampV m 0 1073741824 ∧ 0 ≤ k ∧ k ≤ 1073741824 := ⟨_, rfl, by unfold clampV; omega, by unfold clampV; omega⟩
  have HK := Lib.hid hk
  obtain ⟨u, hu⟩ : ∃ u, u = errV T.cons T.rate k := ⟨_, rfl⟩
  obtain ⟨u1, u2⟩ := errV_bd k hc hr
  rw [← hu] at u1 u2
  have HU := Lib.hid hu
  have HE : Hid (addV T.cons T.rate E m = ⟨clampV (E.min + max 0 (k - u)) (-1073741824) 1073741824, clampV (E.max + k + u) (-1073741824) 1073741824, k + u⟩) := by
    show _ = _; rw [addV, addU, ← hk, ← hu]
  clear hk hu
  obtain ⟨h1, h1'⟩ := h1
  obtain ⟨h2, h2'⟩ := h2
  have hs' : (k < u ∧ max 0 (k - u) = 0) ∨ (u ≤ k ∧ max 0 (k - u) = k - u) := by omega
  rcases hs' with ⟨hs, hmx⟩ | ⟨hs, hmx⟩
  all_goals rw [hmx] at HE
  all_goals clear hmx
  all_goals go_enter Try.func18, Try.ntmps18
  all_goals go_wp2_with (first
      | (go_at_call 32; refine (rclamp_any _ _ _ _).mono ?_; rintro e w' ⟨rfl, rfl⟩; rw [← HK.out])
      | (go_at_call 33; refine (to_after (rerr_any T k _ hc hr)).mono ?_; rintro e w' ⟨x, rfl, rfl⟩; rw [← HU.out]))
  all_goals refine wp_tail_in x 19 (by kernel_rfl) (by kernel_rfl) ?_
  all_goals simp only [List.take_succ_cons, List.take_zero, List.drop_succ_cons, List.drop_zero]
  all_goals repeat (first | go_big_quiet_step (((go_at_call 32; exact after_same _ (rclamp_any _ _ _ _)))) )
  all_goals refine wpQuiet_nil ?_
  all_goals rintro _ ⟨y, rfl⟩
  all_goals go_wp2
  all_goals exact bodyPost_ret (v := .agg #[.int .i64 (addV T.cons T.rate E m).min, .int .i64 (addV T.cons T.rate E m).max, .int .i64 (addV T.cons T.rate E m).speed]) (by rw [HE.out]; simp [results, Try.results18, go_sem]) rfl ⟨rfl, (((((((Below.refl _ _).alloc (Nat.le_refl _) _).alloc (by simp) _).alloc (by simp; omega) _).trans (y.is.mono (by simp; omega))).setCell (by simp; omega) _).setCell (by simp; omega) _).setCell (by simp; omega) _⟩
theorem rmay_any (T : Tr) (d m : Int) (w : World) (hc : 0 ≤ T.cons ∧ T.cons ≤ 500) (hr : 0 ≤ T.rate ∧ T.rate ≤ 100) (hd1 : 0 < d) (hd2 : d ≤ 1073741824) (hm1 : -1073741824 ≤ m) (hm2 : m ≤ 2147483648) :
    Calls Try.prog 34 #[.agg #[.int .i64 T.id, .string T.name, .int .i64 T.len, .int .i64 T.speed, .int .i64 T.accel, .int .i64 T.service, .int .i64 T.emergency, .int .i64 T.delay, .int .i64 T.cons, .int .i64 T.rate], .int .i64 d, .int .i64 m] w fun e w' => e = .returned (.bool (mayB T.cons T.rate d m)) ∧ Below w.heap.size w w' := by
  have HE : Hid (mayB T.cons T.rate d m = _) := mayB.eq_def ..
  obtain ⟨q, hq⟩ : ∃ q, q = errV T.cons T.rate m := ⟨_, rfl⟩
  have hb := errV_bd m hc hr
  rw [← hq] at hb
  rw [← hq] at HE
  have HQ := Lib.hid hq
  clear hq
  have key : (1 ≤ m ∧ m - d ≤ q) ∨ (1 ≤ m ∧ decide (m - d ≤ q) = false) ∨ decide (1 ≤ m) = false := by simp; omega
  rcases key with ⟨h1, h2⟩ | ⟨h1, h2⟩ | h1
  all_goals go_enter Try.func34, Try.ntmps34
  all_goals go_wp2_with (go_at_call 33; refine (rerr_any T m _ hc hr).mono ?_; rintro e w' ⟨rfl, hb1⟩; rw [← HQ.out]; have HB := Lib.hid hb1; clear hb1)
  all_goals go_ret
  all_goals refine ⟨ret_bool ?_, ((Below.refl _ _).alloc (Nat.le_refl _) _).trans (HB.out.mono (by simp))⟩
  · rw [HE.out, Bool.eq_iff_iff]; simp; omega
  · rw [HE.out, h2]; simp
  · rw [HE.out, h1]; simp
set_option maxHeartbeats 8000000 in
theorem rmeas_any (T : Tr) (d s : Int) (w : World) (hc : 0 ≤ T.cons ∧ T.cons ≤ 500) (hr : 0 ≤ T.rate ∧ T.rate ≤ 100) : Calls Try.prog 19 #[.agg #[.int .i64 T.id, .string T.name, .int .i64 T.len, .int .i64 T.speed, .int .i64 T.accel, .int .i64 T.service, .int .i64 T.emergency, .int .i64 T.delay, .int .i64 T.cons, .int .i64 T.rate], .int .i64 d, .int .i64 s] w fun e w' => e = .returned (.int .i64 (measV T.cons T.rate d s)) ∧ Below w.heap.size w w' := by
  by_cases h : d ≤ 0
  · have HE := Lib.hid (measV_zero (c := T.cons) (r := T.rate) (s := s) h)
    go_enter Try.func19, Try.ntmps19
    go_wp2
    go_ret
    exact ⟨ret_int HE.out.symm, (Below.refl _ _).alloc (Nat.le_refl _) _⟩
  · obtain ⟨k, hk, k1, k2⟩ : ∃ k, k = min d 1073741824 ∧ 0 < k ∧ k ≤ 1073741824 := ⟨_, rfl, by omega, by omega⟩
    have HK := Lib.hid hk
    obtain ⟨c, hc', c1, c2⟩ : ∃ c, c = clampV s (-1073741824) 1073741824 ∧ -1073741824 ≤ c ∧ c ≤ 1073741824 := ⟨_, rfl, by unfold clampV; omega, by unfold clampV; omega⟩
    have HC := Lib.hid hc'
    obtain ⟨g, hg, g1, g2⟩ : ∃ g, g = max (k + c) 1 ∧ 1 ≤ g ∧ g ≤ 2147483648 := ⟨_, rfl, by omega, by omega⟩
    have HX : Hid (∀ y, IsMeas T.cons T.rate k g y → measV T.cons T.rate d s = y) := fun y hy => by
      refine measV_of hc hr (by omega) ?_
      rw [← hk, ← hc']
      rw [hg] at hy
      exact hy.one hc hr (by omega)
    have HS := Lib.hid (mayB_self (d := k) hc hr (by omega))
    have HG := Lib.hid hg
    obtain ⟨z, hz⟩ : ∃ z, mayB T.cons T.rate k g = z := ⟨_, rfl⟩
    have HZ := Lib.hid hz
    have key : (d ≤ 1073741824 ∧ d = k) ∨ (1073741824 < d ∧ k = 1073741824) := by omega
    have key2 : (1 ≤ k + c ∧ g = k + c) ∨ (k + c < 1 ∧ g = 1) := by omega
    clear hk hc' hg
    cases z
    · rcases key with ⟨e1, rfl⟩ | ⟨e1, rfl⟩ <;> rcases key2 with ⟨e2, rfl⟩ | ⟨e2, rfl⟩
      all_goals go_enter Try.func19, Try.ntmps19
      all_goals go_wp2_with (first
        | (go_at_call 32; refine (rclamp_any _ _ _ _).mono ?_; rintro e w' ⟨rfl, rfl⟩; rw [← HC.out])
        | (go_at_call 34; refine (to_after (rmay_any T _ _ _ hc hr (by omega) (by omega) (by omega) (by omega))).mono ?_; rintro e w' ⟨x, rfl, rfl⟩))
      · go_loopg [7, 9] (if (d : Int) < (d + c) then (d + c) - d else d - (d + c) : Int).toNat (fun n good bad wr => ∃ p q : Int, good = .int .i64 p ∧ bad = .int .i64 q ∧ Hid (Below w.heap.size w wr ∧ CellsAt wr w.heap.size [.int .i64 T.id, .string T.name, .int .i64 T.len, .int .i64 T.speed, .int .i64 T.accel, .int .i64 T.service, .int .i64 T.emergency, .int .i64 T.delay, .int .i64 T.cons, .int .i64 T.rate]) ∧ n = (if p < q then q - p else p - q).toNat ∧ 1 ≤ p ∧ p ≤ 2147483648 ∧ 1 ≤ q ∧ q ≤ 2147483648 ∧ Hid (mayB T.cons T.rate d p = true ∧ mayB T.cons T.rate d q = false ∧ (p < q ∧ q ≤ (d + c) ∨ q < p ∧ (d + c) ≤ q)))
        case atStart =>
          refine ⟨d, (d + c), rfl, rfl, ⟨((Below.refl _ _).alloc (Nat.le_refl _) _).trans (x.is.mono (by simp)), (CellsAt.new rfl).keep x.is⟩, rfl, by omega, by omega, by omega, by omega, HS.out, HZ.out, ?_⟩
          have : (d : Int) ≠ (d + c) := fun e => by have h1 := HS.out; have h2 := HZ.out; rw [← e, h1] at h2; cases h2
          omega
        case round =>
          obtain ⟨p, q, rfl, rfl, hbw, hn, p1, p2, q1, q2, hpq⟩ := hrel
          have HN := Lib.hid hn
          have hne : p < q ∨ q < p := by have := hpq.out.2.2; omega
          clear hn
          by_cases hend : p - q ≤ 1 ∧ q - p ≤ 1
          · obtain ⟨e1, e2⟩ := hend
            have HR : Hid (measV T.cons T.rate d s = p) := by
              apply HX.out
              obtain ⟨h1, h2, h3⟩ := hpq.out
              refine ⟨h1, ?_⟩
              rcases h3 with ⟨h3, h4⟩ | ⟨h3, h4⟩
              · have : q = p + 1 := by omega
                subst this
                exact .inr (.inl ⟨by omega, h2⟩)
              · have : q = p - 1 := by omega
                subst this
                exact .inr (.inr ⟨by omega, h2⟩)
            go_wp2
            go_ret
            exact ⟨ret_int HR.out.symm, hbw.out.1⟩
          · have key : (decide (1 < p - q) = true ∧ 1 < p - q) ∨ (decide (1 < p - q) = false ∧ p - q ≤ 1 ∧ 1 < q - p) := by simp; omega
            have ht := hbw.out.2
            have t0 := ht.2 0 _ rfl
            have t1 := ht.2 1 _ rfl
            have t2 := ht.2 2 _ rfl
            have t3 := ht.2 3 _ rfl
            have t4 := ht.2 4 _ rfl
            have t5 := ht.2 5 _ rfl
            have t6 := ht.2 6 _ rfl
            have t7 := ht.2 7 _ rfl
            have t8 := ht.2 8 _ rfl
            have t9 := ht.2 9 _ rfl
            have HTT := Lib.hid ht
            clear hend ht
            obtain ⟨f, hf⟩ : ∃ f, mayB T.cons T.rate d ((p + q) / 2) = f := ⟨_, rfl⟩
            have HF := Lib.hid hf
            rcases key with ⟨k1, k2⟩ | ⟨k1, k2, k3⟩
            all_goals cases f
            all_goals go_wp2_with (go_at_call 34; refine (rmay_any T _ _ _ hc hr (by omega) (by omega) (by omega) (by omega)).mono ?_; rintro e w' ⟨rfl, hb1⟩; have HB1 := Lib.hid (hbw.out.1.trans (hb1.mono hbw.out.1.size)); have HB2 := Lib.hid (HTT.out.keep hb1); clear hb1)
            · go_roundg (if p < (p + q) / 2 then (p + q) / 2 - p else p - (p + q) / 2).toNat
              case measure => have := HN.out; split at * <;> omega
              case rel => exact ⟨p, (p + q) / 2, rfl, rfl, ⟨HB1.out, HB2.out⟩, rfl, by omega, by omega, by omega, by omega, hpq.out.1, HF.out, by have h1 := hpq.out.2.2; omega⟩
            · go_roundg (if (p + q) / 2 < q then q - (p + q) / 2 else (p + q) / 2 - q).toNat
              case measure => have := HN.out; split at * <;> omega
              case rel => exact ⟨(p + q) / 2, q, rfl, rfl, ⟨HB1.out, HB2.out⟩, rfl, by omega, by omega, by omega, by omega, HF.out, hpq.out.2.1, by have h1 := hpq.out.2.2; omega⟩
            · go_roundg (if p < (p + q) / 2 then (p + q) / 2 - p else p - (p + q) / 2).toNat
              case measure => have := HN.out; split at * <;> omega
              case rel => exact ⟨p, (p + q) / 2, rfl, rfl, ⟨HB1.out, HB2.out⟩, rfl, by omega, by omega, by omega, by omega, hpq.out.1, HF.out, by have h1 := hpq.out.2.2; omega⟩
            · go_roundg (if (p + q) / 2 < q then q - (p + q) / 2 else (p + q) / 2 - q).toNat
              case measure => have := HN.out; split at * <;> omega
              case rel => exact ⟨(p + q) / 2, q, rfl, rfl, ⟨HB1.out, HB2.out⟩, rfl, by omega, by omega, by omega, by omega, HF.out, hpq.out.2.1, by have h1 := hpq.out.2.2; omega⟩
      · go_loopg [7, 9] (if (d : Int) < 1 then 1 - d else d - 1 : Int).toNat (fun n good bad wr => ∃ p q : Int, good = .int .i64 p ∧ bad = .int .i64 q ∧ Hid (Below w.heap.size w wr ∧ CellsAt wr w.heap.size [.int .i64 T.id, .string T.name, .int .i64 T.len, .int .i64 T.speed, .int .i64 T.accel, .int .i64 T.service, .int .i64 T.emergency, .int .i64 T.delay, .int .i64 T.cons, .int .i64 T.rate]) ∧ n = (if p < q then q - p else p - q).toNat ∧ 1 ≤ p ∧ p ≤ 2147483648 ∧ 1 ≤ q ∧ q ≤ 2147483648 ∧ Hid (mayB T.cons T.rate d p = true ∧ mayB T.cons T.rate d q = false ∧ (p < q ∧ q ≤ 1 ∨ q < p ∧ 1 ≤ q)))
        case atStart =>
          refine ⟨d, 1, rfl, rfl, ⟨((Below.refl _ _).alloc (Nat.le_refl _) _).trans (x.is.mono (by simp)), (CellsAt.new rfl).keep x.is⟩, rfl, by omega, by omega, by omega, by omega, HS.out, HZ.out, ?_⟩
          have : (d : Int) ≠ 1 := fun e => by have h1 := HS.out; have h2 := HZ.out; rw [← e, h1] at h2; cases h2
          omega
        case round =>
          obtain ⟨p, q, rfl, rfl, hbw, hn, p1, p2, q1, q2, hpq⟩ := hrel
          have HN := Lib.hid hn
          have hne : p < q ∨ q < p := by have := hpq.out.2.2; omega
          clear hn
          by_cases hend : p - q ≤ 1 ∧ q - p ≤ 1
          · obtain ⟨e1, e2⟩ := hend
            have HR : Hid (measV T.cons T.rate d s = p) := by
              apply HX.out
              obtain ⟨h1, h2, h3⟩ := hpq.out
              refine ⟨h1, ?_⟩
              rcases h3 with ⟨h3, h4⟩ | ⟨h3, h4⟩
              · have : q = p + 1 := by omega
                subst this
                exact .inr (.inl ⟨by omega, h2⟩)
              · have : q = p - 1 := by omega
                subst this
                exact .inr (.inr ⟨by omega, h2⟩)
            go_wp2
            go_ret
            exact ⟨ret_int HR.out.symm, hbw.out.1⟩
          · have key : (decide (1 < p - q) = true ∧ 1 < p - q) ∨ (decide (1 < p - q) = false ∧ p - q ≤ 1 ∧ 1 < q - p) := by simp; omega
            have ht := hbw.out.2
            have t0 := ht.2 0 _ rfl
            have t1 := ht.2 1 _ rfl
            have t2 := ht.2 2 _ rfl
            have t3 := ht.2 3 _ rfl
            have t4 := ht.2 4 _ rfl
            have t5 := ht.2 5 _ rfl
            have t6 := ht.2 6 _ rfl
            have t7 := ht.2 7 _ rfl
            have t8 := ht.2 8 _ rfl
            have t9 := ht.2 9 _ rfl
            have HTT := Lib.hid ht
            clear hend ht
            obtain ⟨f, hf⟩ : ∃ f, mayB T.cons T.rate d ((p + q) / 2) = f := ⟨_, rfl⟩
            have HF := Lib.hid hf
            rcases key with ⟨k1, k2⟩ | ⟨k1, k2, k3⟩
            all_goals cases f
            all_goals go_wp2_with (go_at_call 34; refine (rmay_any T _ _ _ hc hr (by omega) (by omega) (by omega) (by omega)).mono ?_; rintro e w' ⟨rfl, hb1⟩; have HB1 := Lib.hid (hbw.out.1.trans (hb1.mono hbw.out.1.size)); have HB2 := Lib.hid (HTT.out.keep hb1); clear hb1)
            · go_roundg (if p < (p + q) / 2 then (p + q) / 2 - p else p - (p + q) / 2).toNat
              case measure => have := HN.out; split at * <;> omega
              case rel => exact ⟨p, (p + q) / 2, rfl, rfl, ⟨HB1.out, HB2.out⟩, rfl, by omega, by omega, by omega, by omega, hpq.out.1, HF.out, by have h1 := hpq.out.2.2; omega⟩
            · go_roundg (if (p + q) / 2 < q then q - (p + q) / 2 else (p + q) / 2 - q).toNat
              case measure => have := HN.out; split at * <;> omega
              case rel => exact ⟨(p + q) / 2, q, rfl, rfl, ⟨HB1.out, HB2.out⟩, rfl, by omega, by omega, by omega, by omega, HF.out, hpq.out.2.1, by have h1 := hpq.out.2.2; omega⟩
            · go_roundg (if p < (p + q) / 2 then (p + q) / 2 - p else p - (p + q) / 2).toNat
              case measure => have := HN.out; split at * <;> omega
              case rel => exact ⟨p, (p + q) / 2, rfl, rfl, ⟨HB1.out, HB2.out⟩, rfl, by omega, by omega, by omega, by omega, hpq.out.1, HF.out, by have h1 := hpq.out.2.2; omega⟩
            · go_roundg (if (p + q) / 2 < q then q - (p + q) / 2 else (p + q) / 2 - q).toNat
              case measure => have := HN.out; split at * <;> omega
              case rel => exact ⟨(p + q) / 2, q, rfl, rfl, ⟨HB1.out, HB2.out⟩, rfl, by omega, by omega, by omega, by omega, HF.out, hpq.out.2.1, by have h1 := hpq.out.2.2; omega⟩
      · go_loopg [7, 9] (if (1073741824 : Int) < (1073741824 + c) then (1073741824 + c) - 1073741824 else 1073741824 - (1073741824 + c) : Int).toNat (fun n good bad wr => ∃ p q : Int, good = .int .i64 p ∧ bad = .int .i64 q ∧ Hid (Below w.heap.size w wr ∧ CellsAt wr w.heap.size [.int .i64 T.id, .string T.name, .int .i64 T.len, .int .i64 T.speed, .int .i64 T.accel, .int .i64 T.service, .int .i64 T.emergency, .int .i64 T.delay, .int .i64 T.cons, .int .i64 T.rate]) ∧ n = (if p < q then q - p else p - q).toNat ∧ 1 ≤ p ∧ p ≤ 2147483648 ∧ 1 ≤ q ∧ q ≤ 2147483648 ∧ Hid (mayB T.cons T.rate (1073741824) p = true ∧ mayB T.cons T.rate (1073741824) q = false ∧ (p < q ∧ q ≤ (1073741824 + c) ∨ q < p ∧ (1073741824 + c) ≤ q)))
        case atStart =>
          refine ⟨1073741824, (1073741824 + c), rfl, rfl, ⟨((Below.refl _ _).alloc (Nat.le_refl _) _).trans (x.is.mono (by simp)), (CellsAt.new rfl).keep x.is⟩, rfl, by omega, by omega, by omega, by omega, HS.out, HZ.out, ?_⟩
          have : (1073741824 : Int) ≠ (1073741824 + c) := fun e => by have h1 := HS.out; have h2 := HZ.out; rw [← e, h1] at h2; cases h2
          omega
        case round =>
          obtain ⟨p, q, rfl, rfl, hbw, hn, p1, p2, q1, q2, hpq⟩ := hrel
          have HN := Lib.hid hn
          have hne : p < q ∨ q < p := by have := hpq.out.2.2; omega
          clear hn
          by_cases hend : p - q ≤ 1 ∧ q - p ≤ 1
          · obtain ⟨e1, e2⟩ := hend
            have HR : Hid (measV T.cons T.rate d s = p) := by
              apply HX.out
              obtain ⟨h1, h2, h3⟩ := hpq.out
              refine ⟨h1, ?_⟩
              rcases h3 with ⟨h3, h4⟩ | ⟨h3, h4⟩
              · have : q = p + 1 := by omega
                subst this
                exact .inr (.inl ⟨by omega, h2⟩)
              · have : q = p - 1 := by omega
                subst this
                exact .inr (.inr ⟨by omega, h2⟩)
            go_wp2
            go_ret
            exact ⟨ret_int HR.out.symm, hbw.out.1⟩
          · have key : (decide (1 < p - q) = true ∧ 1 < p - q) ∨ (decide (1 < p - q) = false ∧ p - q ≤ 1 ∧ 1 < q - p) := by simp; omega
            have ht := hbw.out.2
            have t0 := ht.2 0 _ rfl
            have t1 := ht.2 1 _ rfl
            have t2 := ht.2 2 _ rfl
            have t3 := ht.2 3 _ rfl
            have t4 := ht.2 4 _ rfl
            have t5 := ht.2 5 _ rfl
            have t6 := ht.2 6 _ rfl
            have t7 := ht.2 7 _ rfl
            have t8 := ht.2 8 _ rfl
            have t9 := ht.2 9 _ rfl
            have HTT := Lib.hid ht
            clear hend ht
            obtain ⟨f, hf⟩ : ∃ f, mayB T.cons T.rate (1073741824) ((p + q) / 2) = f := ⟨_, rfl⟩
            have HF := Lib.hid hf
            rcases key with ⟨k1, k2⟩ | ⟨k1, k2, k3⟩
            all_goals cases f
            all_goals go_wp2_with (go_at_call 34; refine (rmay_any T _ _ _ hc hr (by omega) (by omega) (by omega) (by omega)).mono ?_; rintro e w' ⟨rfl, hb1⟩; have HB1 := Lib.hid (hbw.out.1.trans (hb1.mono hbw.out.1.size)); have HB2 := Lib.hid (HTT.out.keep hb1); clear hb1)
            · go_roundg (if p < (p + q) / 2 then (p + q) / 2 - p else p - (p + q) / 2).toNat
              case measure => have := HN.out; split at * <;> omega
              case rel => exact ⟨p, (p + q) / 2, rfl, rfl, ⟨HB1.out, HB2.out⟩, rfl, by omega, by omega, by omega, by omega, hpq.out.1, HF.out, by have h1 := hpq.out.2.2; omega⟩
            · go_roundg (if (p + q) / 2 < q then q - (p + q) / 2 else (p + q) / 2 - q).toNat
              case measure => have := HN.out; split at * <;> omega
              case rel => exact ⟨(p + q) / 2, q, rfl, rfl, ⟨HB1.out, HB2.out⟩, rfl, by omega, by omega, by omega, by omega, HF.out, hpq.out.2.1, by have h1 := hpq.out.2.2; omega⟩
            · go_roundg (if p < (p + q) / 2 then (p + q) / 2 - p else p - (p + q) / 2).toNat
              case measure => have := HN.out; split at * <;> omega
              case rel => exact ⟨p, (p + q) / 2, rfl, rfl, ⟨HB1.out, HB2.out⟩, rfl, by omega, by omega, by omega, by omega, hpq.out.1, HF.out, by have h1 := hpq.out.2.2; omega⟩
            · go_roundg (if (p + q) / 2 < q then q - (p + q) / 2 else (p + q) / 2 - q).toNat
              case measure => have := HN.out; split at * <;> omega
              case rel => exact ⟨(p + q) / 2, q, rfl, rfl, ⟨HB1.out, HB2.out⟩, rfl, by omega, by omega, by omega, by omega, HF.out, hpq.out.2.1, by have h1 := hpq.out.2.2; omega⟩
      · go_loopg [7, 9] (if (1073741824 : Int) < 1 then 1 - 1073741824 else 1073741824 - 1 : Int).toNat (fun n good bad wr => ∃ p q : Int, good = .int .i64 p ∧ bad = .int .i64 q ∧ Hid (Below w.heap.size w wr ∧ CellsAt wr w.heap.size [.int .i64 T.id, .string T.name, .int .i64 T.len, .int .i64 T.speed, .int .i64 T.accel, .int .i64 T.service, .int .i64 T.emergency, .int .i64 T.delay, .int .i64 T.cons, .int .i64 T.rate]) ∧ n = (if p < q then q - p else p - q).toNat ∧ 1 ≤ p ∧ p ≤ 2147483648 ∧ 1 ≤ q ∧ q ≤ 2147483648 ∧ Hid (mayB T.cons T.rate (1073741824) p = true ∧ mayB T.cons T.rate (1073741824) q = false ∧ (p < q ∧ q ≤ 1 ∨ q < p ∧ 1 ≤ q)))
        case atStart =>
          refine ⟨1073741824, 1, rfl, rfl, ⟨((Below.refl _ _).alloc (Nat.le_refl _) _).trans (x.is.mono (by simp)), (CellsAt.new rfl).keep x.is⟩, rfl, by omega, by omega, by omega, by omega, HS.out, HZ.out, ?_⟩
          have : (1073741824 : Int) ≠ 1 := fun e => by have h1 := HS.out; have h2 := HZ.out; rw [← e, h1] at h2; cases h2
          omega
        case round =>
          obtain ⟨p, q, rfl, rfl, hbw, hn, p1, p2, q1, q2, hpq⟩ := hrel
          have HN := Lib.hid hn
          have hne : p < q ∨ q < p := by have := hpq.out.2.2; omega
          clear hn
          by_cases hend : p - q ≤ 1 ∧ q - p ≤ 1
          · obtain ⟨e1, e2⟩ := hend
            have HR : Hid (measV T.cons T.rate d s = p) := by
              apply HX.out
              obtain ⟨h1, h2, h3⟩ := hpq.out
              refine ⟨h1, ?_⟩
              rcases h3 with ⟨h3, h4⟩ | ⟨h3, h4⟩
              · have : q = p + 1 := by omega
                subst this
                exact .inr (.inl ⟨by omega, h2⟩)
              · have : q = p - 1 := by omega
                subst this
                exact .inr (.inr ⟨by omega, h2⟩)
            go_wp2
            go_ret
            exact ⟨ret_int HR.out.symm, hbw.out.1⟩
          · have key : (decide (1 < p - q) = true ∧ 1 < p - q) ∨ (decide (1 < p - q) = false ∧ p - q ≤ 1 ∧ 1 < q - p) := by simp; omega
            have ht := hbw.out.2
            have t0 := ht.2 0 _ rfl
            have t1 := ht.2 1 _ rfl
            have t2 := ht.2 2 _ rfl
            have t3 := ht.2 3 _ rfl
            have t4 := ht.2 4 _ rfl
            have t5 := ht.2 5 _ rfl
            have t6 := ht.2 6 _ rfl
            have t7 := ht.2 7 _ rfl
            have t8 := ht.2 8 _ rfl
            have t9 := ht.2 9 _ rfl
            have HTT := Lib.hid ht
            clear hend ht
            obtain ⟨f, hf⟩ : ∃ f, mayB T.cons T.rate (1073741824) ((p + q) / 2) = f := ⟨_, rfl⟩
            have HF := Lib.hid hf
            rcases key with ⟨k1, k2⟩ | ⟨k1, k2, k3⟩
            all_goals cases f
            all_goals go_wp2_with (go_at_call 34; refine (rmay_any T _ _ _ hc hr (by omega) (by omega) (by omega) (by omega)).mono ?_; rintro e w' ⟨rfl, hb1⟩; have HB1 := Lib.hid (hbw.out.1.trans (hb1.mono hbw.out.1.size)); have HB2 := Lib.hid (HTT.out.keep hb1); clear hb1)
            · go_roundg (if p < (p + q) / 2 then (p + q) / 2 - p else p - (p + q) / 2).toNat
              case measure => have := HN.out; split at * <;> omega
              case rel => exact ⟨p, (p + q) / 2, rfl, rfl, ⟨HB1.out, HB2.out⟩, rfl, by omega, by omega, by omega, by omega, hpq.out.1, HF.out, by have h1 := hpq.out.2.2; omega⟩
            · go_roundg (if (p + q) / 2 < q then q - (p + q) / 2 else (p + q) / 2 - q).toNat
              case measure => have := HN.out; split at * <;> omega
              case rel => exact ⟨(p + q) / 2, q, rfl, rfl, ⟨HB1.out, HB2.out⟩, rfl, by omega, by omega, by omega, by omega, HF.out, hpq.out.2.1, by have h1 := hpq.out.2.2; omega⟩
            · go_roundg (if p < (p + q) / 2 then (p + q) / 2 - p else p - (p + q) / 2).toNat
              case measure => have := HN.out; split at * <;> omega
              case rel => exact ⟨p, (p + q) / 2, rfl, rfl, ⟨HB1.out, HB2.out⟩, rfl, by omega, by omega, by omega, by omega, hpq.out.1, HF.out, by have h1 := hpq.out.2.2; omega⟩
            · go_roundg (if (p + q) / 2 < q then q - (p + q) / 2 else (p + q) / 2 - q).toNat
              case measure => have := HN.out; split at * <;> omega
              case rel => exact ⟨(p + q) / 2, q, rfl, rfl, ⟨HB1.out, HB2.out⟩, rfl, by omega, by omega, by omega, by omega, HF.out, hpq.out.2.1, by have h1 := hpq.out.2.2; omega⟩
    · rcases key with ⟨e1, rfl⟩ | ⟨e1, rfl⟩ <;> rcases key2 with ⟨e2, rfl⟩ | ⟨e2, rfl⟩
      all_goals have HR := Lib.hid (HX.out _ ⟨HZ.out, .inl rfl⟩)
      all_goals go_enter Try.func19, Try.ntmps19
      all_goals go_wp2_with (first
        | (go_at_call 32; refine (rclamp_any _ _ _ _).mono ?_; rintro e w' ⟨rfl, rfl⟩; rw [← HC.out])
        | (go_at_call 34; refine (to_after (rmay_any T _ _ _ hc hr (by omega) (by omega) (by omega) (by omega))).mono ?_; rintro e w' ⟨x, rfl, rfl⟩))
      all_goals go_ret
      all_goals exact ⟨ret_int HR.out.symm, ((Below.refl _ _).alloc (Nat.le_refl _) _).trans (x.is.mono (by simp))⟩
end Go.Proofs.Ythkknagicdanfaa
