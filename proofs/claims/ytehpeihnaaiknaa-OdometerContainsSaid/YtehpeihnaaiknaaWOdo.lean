/- Walks of package odometer and of its reference: what each function returns. -/
import Derived.Test.YtehpeihnaaiknaaWTrain
import Derived.Test.YtehpeihnaaiknaaTail
set_option linter.unusedVariables false
set_option linter.unusedSimpArgs false
namespace Go.Proofs.Ytehpeihnaaiknaa
open Go.ChangeShapes Go.WideShapes Go.ChangeAt Go.RowKit
open Sg

theorem ocoord_any (n : Int) (w : World) : Calls Try.prog 22 #[.int .i64 n] w fun e w' => e = .returned (.int .i64 (clampV n (-1073741824) 1073741824)) ∧ w = w' := by
  go_enter Try.func22, Try.ntmps22
  go_wp2_with (go_at_call 29; refine (clamp_any _ _ _ _).mono ?_; rintro e w' ⟨rfl, rfl⟩)
  go_ret
  exact ⟨rfl, rfl⟩
theorem ocoord_is (n x : Int) (hx : x = clampV n (-1073741824) 1073741824) (w : World) : Calls Try.prog 22 #[.int .i64 n] w fun e w' => e = .returned (.int .i64 x) ∧ w = w' := by
  subst hx; exact ocoord_any n w
theorem may_any (T : Tr) (d m : Int) (b t : Nat) (w : World) (hc : 0 ≤ T.cons ∧ T.cons ≤ 500) (hr : 0 ≤ T.rate ∧ T.rate ≤ 100) (hd1 : 0 < d) (hd2 : d ≤ 1073741824) (hm1 : -1073741824 ≤ m) (hm2 : m ≤ 2147483648)
    (hd : CellsAt w b [.int .i64 d]) (ht : CellsAt w t [.int .i64 T.id, .string T.name, .int .i64 T.len, .int .i64 T.speed, .int .i64 T.accel, .int .i64 T.service, .int .i64 T.emergency, .int .i64 T.delay, .int .i64 T.cons, .int .i64 T.rate]) : Calls Try.prog 23 #[.int .i64 m, .pointer (some ⟨b, 0, none⟩), .pointer (some ⟨t, 0, none⟩)] w fun e w' => e = .returned (.bool (mayB T.cons T.rate d m)) ∧ Below w.heap.size w w' := by
  have HE : Hid (mayB T.cons T.rate d m = _) := mayB.eq_def ..
  have c0 := hd.2 0 _ rfl
  have t0 := ht.2 0 _ rfl
  have t1 := ht.2 1 _ rfl
  have t2 := ht.2 2 _ rfl
  have t3 := ht.2 3 _ rfl
  have t4 := ht.2 4 _ rfl
  have t5 := ht.2 5 _ rfl
  have t6 := ht.2 6 _ rfl
  have t7 := ht.2 7 _ rfl
  have t8 := ht.2 8 _ rfl
  have t9 := ht.2 9 _ rfl
  obtain ⟨q, hq⟩ : ∃ q, q = errV T.cons T.rate m := ⟨_, rfl⟩
  have hb := errV_bd m hc hr
  rw [← hq] at hb
  rw [← hq] at HE
  have HQ := Lib.hid hq
  clear hq hd ht
  by_cases h1 : 1 ≤ m
  · by_cases hn : m - d < 0
    all_goals go_enter Try.func23, Try.ntmps23
    all_goals go_wp2_with (go_at_call 24; refine (terr_any T m _ hc hr).mono ?_; rintro e w' ⟨rfl, hb1⟩; rw [← HQ.out]; have HB := Lib.hid hb1; clear hb1)
    all_goals go_ret
    all_goals exact ⟨ret_bool (by rw [HE.out, Bool.eq_iff_iff]; simp; omega), HB.out⟩
  · have h1' : decide (1 ≤ m) = false := by simpa using h1
    by_cases hn : m - d < 0
    all_goals go_enter Try.func23, Try.ntmps23
    all_goals go_wp2
    all_goals go_ret
    all_goals exact ⟨ret_bool (by rw [HE.out, h1']; rfl), Below.refl _ _⟩
set_option maxHeartbeats 2000000 in
theorem near_any (T : Tr) (d g : Int) (b t : Nat) (w : World) (hc : 0 ≤ T.cons ∧ T.cons ≤ 500) (hr : 0 ≤ T.rate ∧ T.rate ≤ 100) (hd1 : 0 < d) (hd2 : d ≤ 1073741824) (hm1 : -1073741824 ≤ g) (hm2 : g ≤ 2147483648)
    (hd : CellsAt w b [.int .i64 d]) (ht : CellsAt w t [.int .i64 T.id, .string T.name, .int .i64 T.len, .int .i64 T.speed, .int .i64 T.accel, .int .i64 T.service, .int .i64 T.emergency, .int .i64 T.delay, .int .i64 T.cons, .int .i64 T.rate]) (x : Int) (hx : ∀ y, IsMeas T.cons T.rate d g y → x = y) : Calls Try.prog 25 #[.int .i64 d, .int .i64 g, .func (.func 23) #[] #[.pointer (some ⟨b, 0, none⟩), .pointer (some ⟨t, 0, none⟩)]] w fun e w' => e = .returned (.int .i64 x) ∧ Below w.heap.size w w' := by
  have HX := Lib.hid hx
  have HD := Lib.hid hd
  have HT := Lib.hid ht
  clear hx hd ht
  obtain ⟨z, hz⟩ : ∃ z, mayB T.cons T.rate d g = z := ⟨_, rfl⟩
  cases z
  · have HS := Lib.hid (mayB_self (d := d) hc hr (by omega))
    have HZ := Lib.hid hz
    go_enter Try.func25, Try.ntmps25
    go_wp2_with (go_at_call 23; refine (may_any T d g b t _ hc hr hd1 hd2 (by omega) (by omega) HD.out HT.out).mono ?_; rintro e w' ⟨rfl, hb1⟩; have HB := Lib.hid hb1; clear hb1)
    clear hz
    go_loopg [7, 8] (if d < g then g - d else d - g).toNat (fun n good bad wr => ∃ p q : Int, good = .int .i64 p ∧ bad = .int .i64 q ∧ Hid (Below w.heap.size w wr) ∧ n = (if p < q then q - p else p - q).toNat ∧ -1073741824 ≤ p ∧ p ≤ 2147483648 ∧ -1073741824 ≤ q ∧ q ≤ 2147483648 ∧ Hid (mayB T.cons T.rate d p = true ∧ mayB T.cons T.rate d q = false ∧ (p < q ∧ q ≤ g ∨ q < p ∧ g ≤ q)))
    case atStart =>
      refine ⟨d, g, rfl, rfl, HB.out, rfl, by omega, by omega, by omega, by omega, HS.out, HZ.out, ?_⟩
      have : d ≠ g := fun e => by have h1 := HS.out; have h2 := HZ.out; rw [← e, h1] at h2; cases h2
      omega
    case round =>
      obtain ⟨p, q, rfl, rfl, hbw, hn, p1, p2, q1, q2, hpq⟩ := hrel
      have HN := Lib.hid hn
      have hne : p < q ∨ q < p := by have := hpq.out.2.2; omega
      clear hn
      by_cases hend : p - q ≤ 1 ∧ q - p ≤ 1
      · obtain ⟨e1, e2⟩ := hend
        have HR : Hid (x = p) := by
          apply HX.out
          obtain ⟨h1, h2, h3⟩ := hpq.out
          refine ⟨h1, ?_⟩
          rcases h3 with ⟨h3, h4⟩ | ⟨h3, h4⟩
          · have : q = p + 1 := by omega
            subst this
            exact .inr (.inl ⟨by omega, h2⟩)
          · have : q = p - 1 := by omega
            subst this
            exact .inr (.inr ⟨by omega, h2⟩)
        go_wp2
        go_ret
        exact ⟨ret_int HR.out.symm, hbw.out⟩
      · have key : (decide (1 < p - q) = true ∧ 1 < p - q) ∨ (decide (1 < p - q) = false ∧ p - q ≤ 1 ∧ 1 < q - p) := by simp; omega
        obtain ⟨z, hz, hz1, hz2⟩ : ∃ z, z = p + (q - p).tdiv 2 ∧ (p < q → p < z ∧ z < q) ∧ (q < p → q < z ∧ z < p) := ⟨_, rfl, fun h => by rw [Int.tdiv_eq_ediv_of_nonneg (by omega)]; omega, fun h => by
          have : (q - p).tdiv 2 = - ((p - q) / 2) := by rw [← Int.tdiv_eq_ediv_of_nonneg (by omega), ← Int.neg_tdiv]; congr 1; omega
          omega⟩
        have z1 : -1073741824 ≤ z := by omega
        have z2 : z ≤ 2147483648 := by omega
        have HZ := Lib.hid hz
        have HZ1 := Lib.hid hz1
        have HZ2 := Lib.hid hz2
        have HD1 := Lib.hid (HD.out.keep hbw.out)
        have HT1 := Lib.hid (HT.out.keep hbw.out)
        clear hend hz hz1 hz2
        have HW1 : Hid (wrap64 (p + (q - p).tdiv 2) = z) := by show _ = _; rw [← HZ.out]; unfold wrap64; omega
        have HW2 : Hid (p < q → p + (q - p) / 2 = z) := fun h => by rw [HZ.out, Int.tdiv_eq_ediv_of_nonneg (by omega)]
        rcases key with ⟨k1, k2⟩ | ⟨k1, k2, k3⟩
        · obtain ⟨f, hf⟩ : ∃ f, mayB T.cons T.rate d z = f := ⟨_, rfl⟩
          cases f
          all_goals have HF := Lib.hid hf
          all_goals go_wp2_with fail
          all_goals simp only [HW1.out]
          all_goals refine (may_any T d z b t _ hc hr hd1 hd2 (by omega) (by omega) HD1.out HT1.out).mono ?_
          all_goals rintro e w' ⟨rfl, hb1⟩
          all_goals have HB1 := Lib.hid (hbw.out.trans (hb1.mono hbw.out.size))
          all_goals clear hb1
          all_goals go_wp2
          · go_roundg (if p < z then z - p else p - z).toNat
            case measure => have := HN.out; have := HZ2.out (by omega); split at * <;> omega
            case rel => exact ⟨p, z, rfl, rfl, HB1.out, rfl, by omega, by omega, by omega, by omega, hpq.out.1, HF.out, by have h1 := hpq.out.2.2; have := HZ2.out (by omega); omega⟩
          · go_roundg (if z < q then q - z else z - q).toNat
            case measure => have := HN.out; have := HZ2.out (by omega); split at * <;> omega
            case rel => exact ⟨z, q, rfl, rfl, HB1.out, rfl, by omega, by omega, by omega, by omega, HF.out, hpq.out.2.1, by have h1 := hpq.out.2.2; have := HZ2.out (by omega); omega⟩
        · obtain ⟨f, hf⟩ : ∃ f, mayB T.cons T.rate d z = f := ⟨_, rfl⟩
          cases f
          all_goals have HF := Lib.hid hf
          all_goals go_wp2_with fail
          all_goals simp only [HW2.out (by omega)]
          all_goals refine (may_any T d z b t _ hc hr hd1 hd2 (by omega) (by omega) HD1.out HT1.out).mono ?_
          all_goals rintro e w' ⟨rfl, hb1⟩
          all_goals have HB1 := Lib.hid (hbw.out.trans (hb1.mono hbw.out.size))
          all_goals clear hb1
          all_goals go_wp2
          · go_roundg (if p < z then z - p else p - z).toNat
            case measure => have := HN.out; have := HZ1.out (by omega); split at * <;> omega
            case rel => exact ⟨p, z, rfl, rfl, HB1.out, rfl, by omega, by omega, by omega, by omega, hpq.out.1, HF.out, by have h1 := hpq.out.2.2; have := HZ1.out (by omega); omega⟩
          · go_roundg (if z < q then q - z else z - q).toNat
            case measure => have := HN.out; have := HZ1.out (by omega); split at * <;> omega
            case rel => exact ⟨z, q, rfl, rfl, HB1.out, rfl, by omega, by omega, by omega, by omega, HF.out, hpq.out.2.1, by have h1 := hpq.out.2.2; have := HZ1.out (by omega); omega⟩
  · have HR : Hid (x = g) := HX.out g ⟨hz, .inl rfl⟩
    go_enter Try.func25, Try.ntmps25
    go_wp2_with (go_at_call 23; refine (may_any T d g b t _ hc hr hd1 hd2 (by omega) (by omega) HD.out HT.out).mono ?_; rintro e w' ⟨rfl, hb1⟩; have HB := Lib.hid hb1; clear hb1)
    go_ret
    exact ⟨ret_int HR.out.symm, HB.out⟩
theorem meas_any (T : Tr) (d s : Int) (w : World) (hc : 0 ≤ T.cons ∧ T.cons ≤ 500) (hr : 0 ≤ T.rate ∧ T.rate ≤ 100) : Calls Try.prog 9 #[.agg #[.int .i64 T.id, .string T.name, .int .i64 T.len, .int .i64 T.speed, .int .i64 T.accel, .int .i64 T.service, .int .i64 T.emergency, .int .i64 T.delay, .int .i64 T.cons, .int .i64 T.rate], .int .i64 d, .int .i64 s] w fun e w' => e = .returned (.int .i64 (measV T.cons T.rate d s)) ∧ Below w.heap.size w w' := by
  by_cases h : d ≤ 0
  · have HE := Lib.hid (measV_zero (c := T.cons) (r := T.rate) (s := s) h)
    go_enter Try.func9, Try.ntmps9
    go_wp2
    go_ret
    exact ⟨ret_int HE.out.symm, ((Below.refl _ _).alloc (Nat.le_refl _) _).alloc (by simp) _⟩
  · obtain ⟨k, hk, k1, k2⟩ : ∃ k, k = clampV d (-1073741824) 1073741824 ∧ 0 < k ∧ k ≤ 1073741824 := ⟨_, rfl, by unfold clampV; omega, by unfold clampV; omega⟩
    have HK := Lib.hid hk
    obtain ⟨c, hc', c1, c2⟩ : ∃ c, c = clampV s (-1073741824) 1073741824 ∧ -1073741824 ≤ c ∧ c ≤ 1073741824 := ⟨_, rfl, by unfold clampV; omega, by unfold clampV; omega⟩
    have HC := Lib.hid hc'
    have HX : Hid (∀ y, IsMeas T.cons T.rate k (k + c) y → measV T.cons T.rate d s = y) := fun y hy => by
      have e : k = min d 1073741824 := by rw [hk]; unfold clampV; omega
      exact measV_of hc hr (by omega) (by rw [← e, ← hc']; exact hy)
    clear hk hc'
    go_enter Try.func9, Try.ntmps9
    go_wp2_with (go_at_call 22; refine (ocoord_any _ _).mono ?_; rintro e w' ⟨rfl, rfl⟩; rw [← HK.out])
    refine wp_region_after (by kernel_rfl) (by kernel_rfl) ?_
    repeat (first | go_big_quiet_step ((first
      | (go_at_call 22; exact after_same _ (ocoord_is _ c HC.out _))
      | (go_at_call 25; exact after_call _ (near_any T k (k + c) _ _ _ hc hr (by omega) (by omega) (by omega) (by omega) (by exact CellsAt.keep (CellsAt.new (by simp)) (After.is _)) (by exact CellsAt.keep (CellsAt.alloc (CellsAt.new (by simp)) _) (After.is _)) _ HX.out)))) )
    refine wpQuiet_nil ?_
    intro _ hw'
    obtain ⟨y, hw''⟩ := hw'
    subst hw''
    go_wp2
    go_ret
    exact ⟨rfl, (((Below.refl _ _).alloc (Nat.le_refl _) _).alloc (by simp) _).trans (y.is.mono (by simp; omega))⟩
end Go.Proofs.Ytehpeihnaaiknaa
