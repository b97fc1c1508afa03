/- Walks of package num (and of its reference): what each function returns. -/
import Derived.Test.YtlnhdhkggiondaaKit
import Derived.Test.YtlnhdhkggiondaaPNum
import Derived.Deep.LoopGhost
import Derived.Laws.Externs
import Derived.Laws.BitsAllLaws
import Derived.Laws.BitsLemmas
namespace Go.Proofs.Ytlnhdhkggiondaa
open Go.ChangeShapes Go.WideShapes Go.ChangeAt Go.RowKit
open Sg

theorem div_any (a b : Int) (w : World) : Calls Try.prog 19 #[.int .i64 a, .int .i64 b] w fun e w' => e = .returned (.int .i64 (divE a b)) ∧ w = w' := by
  go_enter Try.func19, Try.ntmps19
  go_wp2
  all_goals go_ret
  all_goals refine ⟨ret_int ?_, rfl⟩
  all_goals simp_all [divE]
theorem floor_any (a b : Int) (w : World) (ha1 : -9223372036854775808 ≤ a) (ha2 : a ≤ 9223372036854775807) : Calls Try.prog 9 #[.int .i64 a, .int .i64 b] w fun e w' => e = .returned (.tuple #[.int .i64 (floV a b), .int .i64 (divE a b)]) ∧ w = w' := by
  by_cases hd : divE a b = 0
  · obtain ⟨hb, h17⟩ := divE_zero hd
    obtain ⟨hq1, hq2⟩ := quo_bd a b ha1 ha2 hb h17
    have HD := Lib.hid hd
    have h1 : (divE a b != 0) = false := by simp [hd]
    clear hd h17
    by_cases hm : a.tmod b = 0
    · have HV := Lib.hid (floV_zero HD.out hm)
      have hm' : (a.tmod b != 0) = false := by simp [hm]
      clear hm
      go_enter Try.func9, Try.ntmps9
      go_wp2_with (go_at_call 19; refine (div_any _ _ _).mono ?_; rintro e w' ⟨rfl, rfl⟩)
      go_ret2
      exact ⟨ret_int2 HV.out.symm HD.out.symm, rfl⟩
    · have HM := Lib.hid hm
      obtain ⟨hq3, hq4⟩ := quo_bd2 a b ha1 ha2 hb hm
      have hm' : (a.tmod b != 0) = true := by simp [hm]
      clear hm
      by_cases hs : (a < 0 ∧ 0 ≤ b) ∨ (0 ≤ a ∧ b < 0)
      · have HV := Lib.hid (floV_down HD.out HM.out hs)
        have h2 : (!decide (a < 0) == decide (b < 0)) = true := by
          rcases hs with ⟨h1, h2⟩ | ⟨h1, h2⟩ <;> simp [h1, h2] <;> omega
        clear hs
        go_enter Try.func9, Try.ntmps9
        go_wp2_with (go_at_call 19; refine (div_any _ _ _).mono ?_; rintro e w' ⟨rfl, rfl⟩)
        go_ret2
        exact ⟨ret_int2 HV.out.symm HD.out.symm, rfl⟩
      · have hs' : (a < 0 ∧ b < 0) ∨ (0 ≤ a ∧ 0 ≤ b) := by omega
        have HV := Lib.hid (floV_same HD.out HM.out hs')
        have h2 : (!decide (a < 0) == decide (b < 0)) = false := by
          rcases hs' with ⟨h1, h2⟩ | ⟨h1, h2⟩ <;> simp [h1, h2] <;> omega
        clear hs hs'
        go_enter Try.func9, Try.ntmps9
        go_wp2_with (go_at_call 19; refine (div_any _ _ _).mono ?_; rintro e w' ⟨rfl, rfl⟩)
        go_ret2
        exact ⟨ret_int2 HV.out.symm HD.out.symm, rfl⟩
  · have h1 : (divE a b != 0) = true := by simp [hd]
    have HV := Lib.hid (floV_bad hd)
    clear hd
    go_enter Try.func9, Try.ntmps9
    go_wp2_with (go_at_call 19; refine (div_any _ _ _).mono ?_; rintro e w' ⟨rfl, rfl⟩)
    go_ret2
    exact ⟨ret_int2 HV.out.symm rfl, rfl⟩
theorem ceil_any (a b : Int) (w : World) (ha1 : -9223372036854775808 ≤ a) (ha2 : a ≤ 9223372036854775807) : Calls Try.prog 11 #[.int .i64 a, .int .i64 b] w fun e w' => e = .returned (.tuple #[.int .i64 (ceiV a b), .int .i64 (divE a b)]) ∧ w = w' := by
  by_cases hd : divE a b = 0
  · obtain ⟨hb, h17⟩ := divE_zero hd
    obtain ⟨hq1, hq2⟩ := quo_bd a b ha1 ha2 hb h17
    have HD := Lib.hid hd
    have h1 : (divE a b != 0) = false := by simp [hd]
    clear hd h17
    by_cases hm : a.tmod b = 0
    · have HV := Lib.hid (ceiV_zero HD.out hm)
      have hm' : (a.tmod b != 0) = false := by simp [hm]
      clear hm
      go_enter Try.func11, Try.ntmps11
      go_wp2_with (go_at_call 19; refine (div_any _ _ _).mono ?_; rintro e w' ⟨rfl, rfl⟩)
      go_ret2
      exact ⟨ret_int2 HV.out.symm HD.out.symm, rfl⟩
    · have HM := Lib.hid hm
      obtain ⟨hq3, hq4⟩ := quo_bd2 a b ha1 ha2 hb hm
      have hm' : (a.tmod b != 0) = true := by simp [hm]
      clear hm
      by_cases hs : (a < 0 ∧ 0 ≤ b) ∨ (0 ≤ a ∧ b < 0)
      · have HV := Lib.hid (floV_down HD.out HM.out hs)
        have h2 : (decide (a < 0) == decide (b < 0)) = false := by
          rcases hs with ⟨h1, h2⟩ | ⟨h1, h2⟩ <;> simp [h1, h2] <;> omega
        clear hs
        go_enter Try.func11, Try.ntmps11
        go_wp2_with (go_at_call 19; refine (div_any _ _ _).mono ?_; rintro e w' ⟨rfl, rfl⟩)
        go_ret2
        exact ⟨ret_int2 (by rw [ceiV_up HD.out HM.out, HV.out]; omega) HD.out.symm, rfl⟩
      · have hs' : (a < 0 ∧ b < 0) ∨ (0 ≤ a ∧ 0 ≤ b) := by omega
        have HV := Lib.hid (floV_same HD.out HM.out hs')
        have h2 : (decide (a < 0) == decide (b < 0)) = true := by
          rcases hs' with ⟨h1, h2⟩ | ⟨h1, h2⟩ <;> simp [h1, h2] <;> omega
        clear hs hs'
        go_enter Try.func11, Try.ntmps11
        go_wp2_with (go_at_call 19; refine (div_any _ _ _).mono ?_; rintro e w' ⟨rfl, rfl⟩)
        go_ret2
        exact ⟨ret_int2 (by rw [ceiV_up HD.out HM.out, HV.out]) HD.out.symm, rfl⟩
  · have h1 : (divE a b != 0) = true := by simp [hd]
    have HV := Lib.hid (ceiV_bad hd)
    clear hd
    go_enter Try.func11, Try.ntmps11
    go_wp2_with (go_at_call 19; refine (div_any _ _ _).mono ?_; rintro e w' ⟨rfl, rfl⟩)
    go_ret2
    exact ⟨ret_int2 HV.out.symm rfl, rfl⟩
theorem rfloor_any (a b : Int) (w : World) (ha1 : -9223372036854775808 ≤ a) (ha2 : a ≤ 9223372036854775807) : Calls Try.prog 10 #[.int .i64 a, .int .i64 b] w fun e w' => e = .returned (.tuple #[.int .i64 (floV a b), .int .i64 (divE a b)]) ∧ w = w' := by
  by_cases hb : b = 0
  · subst hb
    go_enter Try.func10, Try.ntmps10
    go_wp2
    go_ret2
    exact ⟨rfl, rfl⟩
  by_cases h17 : a = -9223372036854775808 ∧ b = -1
  · obtain ⟨rfl, rfl⟩ := h17
    go_enter Try.func10, Try.ntmps10
    go_wp2
    go_ret2
    exact ⟨rfl, rfl⟩
  have hd : divE a b = 0 := by rw [divE, if_neg hb, if_neg h17]
  by_cases e : a = -9223372036854775808
  · have he : (a == -9223372036854775808) = true := by simp [e]
    have hb1 : (b == -1) = false := by simp; omega
    have hb' : (b == 0) = false := by simp [hb]
    have HD := Lib.hid hd
    obtain ⟨hq1, hq2⟩ := quo_bd a b ha1 ha2 hb h17
    clear hd e
    by_cases hm : a.tmod b = 0
    · have HV := Lib.hid (floV_zero HD.out hm)
      have hm' : (a.tmod b != 0) = false := by simp [hm]
      clear hm
      go_enter Try.func10, Try.ntmps10
      go_wp2
      all_goals go_ret2
      all_goals exact ⟨ret_int2 HV.out.symm HD.out.symm, rfl⟩
    · have HM := Lib.hid hm
      obtain ⟨hq3, hq4⟩ := quo_bd2 a b ha1 ha2 hb hm
      have hm' : (a.tmod b != 0) = true := by simp [hm]
      clear hm
      by_cases hs : (a < 0 ∧ 0 ≤ b) ∨ (0 ≤ a ∧ b < 0)
      · have HV := Lib.hid (floV_down HD.out HM.out hs)
        have h2 : (!decide (a < 0) == decide (b < 0)) = true := by
          rcases hs with ⟨h1, h2⟩ | ⟨h1, h2⟩ <;> simp [h1, h2] <;> omega
        clear hs
        go_enter Try.func10, Try.ntmps10
        go_wp2
        all_goals go_ret2
        all_goals exact ⟨ret_int2 HV.out.symm HD.out.symm, rfl⟩
      · have hs' : (a < 0 ∧ b < 0) ∨ (0 ≤ a ∧ 0 ≤ b) := by omega
        have HV := Lib.hid (floV_same HD.out HM.out hs')
        have h2 : (!decide (a < 0) == decide (b < 0)) = false := by
          rcases hs' with ⟨h1, h2⟩ | ⟨h1, h2⟩ <;> simp [h1, h2] <;> omega
        clear hs hs'
        go_enter Try.func10, Try.ntmps10
        go_wp2
        all_goals go_ret2
        all_goals exact ⟨ret_int2 HV.out.symm HD.out.symm, rfl⟩
  · have he : (a == -9223372036854775808) = false := by simp [e]
    have hb' : (b == 0) = false := by simp [hb]
    have HD := Lib.hid hd
    obtain ⟨hq1, hq2⟩ := quo_bd a b ha1 ha2 hb h17
    clear hd
    by_cases hm : a.tmod b = 0
    · have HV := Lib.hid (floV_zero HD.out hm)
      have hm' : (a.tmod b != 0) = false := by simp [hm]
      clear hm
      go_enter Try.func10, Try.ntmps10
      go_wp2
      all_goals go_ret2
      all_goals exact ⟨ret_int2 HV.out.symm HD.out.symm, rfl⟩
    · have HM := Lib.hid hm
      obtain ⟨hq3, hq4⟩ := quo_bd2 a b ha1 ha2 hb hm
      have hm' : (a.tmod b != 0) = true := by simp [hm]
      clear hm
      by_cases hs : (a < 0 ∧ 0 ≤ b) ∨ (0 ≤ a ∧ b < 0)
      · have HV := Lib.hid (floV_down HD.out HM.out hs)
        have h2 : (!decide (a < 0) == decide (b < 0)) = true := by
          rcases hs with ⟨h1, h2⟩ | ⟨h1, h2⟩ <;> simp [h1, h2] <;> omega
        clear hs
        go_enter Try.func10, Try.ntmps10
        go_wp2
        all_goals go_ret2
        all_goals exact ⟨ret_int2 HV.out.symm HD.out.symm, rfl⟩
      · have hs' : (a < 0 ∧ b < 0) ∨ (0 ≤ a ∧ 0 ≤ b) := by omega
        have HV := Lib.hid (floV_same HD.out HM.out hs')
        have h2 : (!decide (a < 0) == decide (b < 0)) = false := by
          rcases hs' with ⟨h1, h2⟩ | ⟨h1, h2⟩ <;> simp [h1, h2] <;> omega
        clear hs hs'
        go_enter Try.func10, Try.ntmps10
        go_wp2
        all_goals go_ret2
        all_goals exact ⟨ret_int2 HV.out.symm HD.out.symm, rfl⟩
theorem rceil_any (a b : Int) (w : World) (ha1 : -9223372036854775808 ≤ a) (ha2 : a ≤ 9223372036854775807) : Calls Try.prog 12 #[.int .i64 a, .int .i64 b] w fun e w' => e = .returned (.tuple #[.int .i64 (ceiV a b), .int .i64 (divE a b)]) ∧ w = w' := by
  by_cases hd : divE a b = 0
  · obtain ⟨hb, h17⟩ := divE_zero hd
    have HD := Lib.hid hd
    have h1 : (divE a b == 0) = true := by simp [hd]
    clear hd h17
    by_cases hm : a.tmod b = 0
    · have HV := Lib.hid ((ceiV_zero HD.out hm).trans (floV_zero HD.out hm).symm)
      have hm' : (a.tmod b != 0) = false := by simp [hm]
      clear hm
      go_enter Try.func12, Try.ntmps12
      go_wp2_with (go_at_call 10; refine (rfloor_any _ _ _ (by omega) (by omega)).mono ?_; rintro e w' ⟨rfl, rfl⟩)
      go_ret2
      exact ⟨ret_int2 HV.out.symm rfl, rfl⟩
    · have HV := Lib.hid (ceiV_up HD.out hm)
      have hm' : (a.tmod b != 0) = true := by simp [hm]
      have hf : -9223372036854775808 ≤ floV a b ∧ floV a b < 9223372036854775807 := by
        obtain ⟨hq3, hq4⟩ := quo_bd2 a b ha1 ha2 hb hm
        by_cases hs : (a < 0 ∧ 0 ≤ b) ∨ (0 ≤ a ∧ b < 0)
        · have := floV_down HD.out hm hs; omega
        · have := floV_same HD.out hm (by omega); omega
      obtain ⟨hf1, hf2⟩ := hf
      clear hm
      go_enter Try.func12, Try.ntmps12
      go_wp2_with (go_at_call 10; refine (rfloor_any _ _ _ (by omega) (by omega)).mono ?_; rintro e w' ⟨rfl, rfl⟩)
      go_ret2
      exact ⟨ret_int2 HV.out.symm rfl, rfl⟩
  · have h1 : (divE a b == 0) = false := by simp [hd]
    have HV := Lib.hid ((ceiV_bad hd).trans (floV_bad hd).symm)
    clear hd
    go_enter Try.func12, Try.ntmps12
    go_wp2_with (go_at_call 10; refine (rfloor_any _ _ _ (by omega) (by omega)).mono ?_; rintro e w' ⟨rfl, rfl⟩)
    go_ret2
    exact ⟨ret_int2 HV.out.symm rfl, rfl⟩
theorem clamp_any (n lo hi : Int) (w : World) : Calls Try.prog 15 #[.int .i64 n, .int .i64 lo, .int .i64 hi] w fun e w' => e = .returned (.int .i64 (clampV n lo hi)) ∧ w = w' := by
  go_enter Try.func15, Try.ntmps15
  go_wp2
  all_goals go_ret
  all_goals refine ⟨ret_int ?_, rfl⟩
  all_goals unfold clampV
  all_goals omega
theorem rclamp_any (n lo hi : Int) (w : World) : Calls Try.prog 16 #[.int .i64 n, .int .i64 lo, .int .i64 hi] w fun e w' => e = .returned (.int .i64 (clampV n lo hi)) ∧ w = w' := by
  go_enter Try.func16, Try.ntmps16
  go_wp2
  all_goals go_ret
  all_goals refine ⟨ret_int ?_, rfl⟩
  all_goals unfold clampV
  all_goals omega
def RootPost (n : Int) (w : World) (e : Ending) (w' : World) : Prop := ∃ r, IsRoot n r ∧ e = .returned (.int .i64 r) ∧ w = w'
set_option maxHeartbeats 400000 in
theorem root_any (n : Int) (w : World) (hn : n ≤ 9223372036854775807) : Calls Try.prog 14 #[.int .i64 n] w (RootPost n w) := by
  by_cases h1 : n < 1
  · go_enter Try.func14, Try.ntmps14
    go_wp2
    go_step3
    go_wp2
    go_ret
    exact ⟨0, ⟨by omega, by omega, fun _ => rfl, fun h => by omega⟩, rfl, rfl⟩
  · have h1' : 1 ≤ n := by omega
    go_enter Try.func14, Try.ntmps14
    go_wp2
    go_step3
    go_wp2
    go_step3
    go_wp2
    go_loopg [3, 4] 10 (fun g root place wr => ∃ (k : Nat) (r p : Int), wr = w ∧ g = k + 1 ∧ Hid (p = 10 ^ k) ∧ 1 ≤ p ∧ p ≤ 1000000000 ∧ place = .int .i64 p ∧ root = .int .i64 r ∧ 0 ≤ r ∧ r ≤ 3037000499 ∧ r * r ≤ n)
    case atStart => exact ⟨9, 0, 1000000000, rfl, rfl, rfl, by omega, by omega, rfl, rfl, by omega, by omega, by omega⟩
    case round => 
      obtain ⟨k, r, p, rfl, rfl, hp, hp1, hp2, rfl, rfl, hr, hr2, hrn⟩ := hrel
      go_wp2
      go_loopg [3, 5] (3037000500 - r).toNat (fun g root c ws => ∃ (s : Int), ws = wr ∧ g = (3037000500 - s).toNat ∧ root = .int .i64 s ∧ c = .int .i64 (s + p) ∧ 0 ≤ s ∧ s ≤ 3037000499 ∧ s * s ≤ n)
      case atStart => exact ⟨r, rfl, rfl, rfl, rfl, hr, hr2, hrn⟩
      case round =>
        obtain ⟨s, rfl, hg, rfl, rfl, hs, hs2, hsn⟩ := hrel
        have HG := Lib.hid hg
        clear hg
        by_cases hc : (s + p) * (s + p) ≤ n
        · have hq : s + p ≤ n / (s + p) := (le_quo (by omega)).2 hc
          have hb := sq_bd hn (by omega) hc
          have hsq0 : 0 ≤ (s + p) * (s + p) := Int.mul_nonneg (by omega) (by omega)
          by_cases he : (s + p) * (s + p) = n
          · have he' : ((s + p) * (s + p) == n) = true := by simp [he]
            have HE := Lib.hid he
            clear he
            go_wp2
            try rw [Exit.noGoto_ret]
            go_ret
            exact ⟨s + p, ⟨by omega, hb, fun h => by omega, fun _ => ⟨hc, by have := sq_lt (s + p) (by omega); have := HE.out; omega⟩⟩, rfl, rfl⟩
          · have he' : ((s + p) * (s + p) == n) = false := by simp [he]
            clear he
            go_wp2
            go_roundg (3037000500 - (s + p)).toNat
            case measure => have := HG.out; omega
            case rel => exact ⟨s + p, rfl, rfl, rfl, rfl, by omega, by omega, hc⟩
        · have hq : n / (s + p) < s + p := by have := @le_quo n (s + p) (by omega); omega
          have hc' := Lib.hid hc
          clear hc
          by_cases hpp : p = 1
          · have hp1' : (p == 1) = true := by simp [hpp]
            have HP := Lib.hid hpp
            clear hpp
            go_wp2
            try rw [Exit.noGoto_ret]
            go_ret
            exact ⟨s, ⟨hs, hs2, fun h => by omega, fun _ => ⟨hsn, by have := hc'.out; rw [HP.out] at this; omega⟩⟩, rfl, rfl⟩
          · have hp1' : (p == 1) = false := by simp [hpp]
            have hk : ∃ m, k = m + 1 ∧ p / 10 = 10 ^ m := by
              have h := hp.out
              cases k with
              | zero => simp at h; omega
              | succ m => exact ⟨m, rfl, by rw [h, Int.pow_succ]; omega⟩
            have HK := Lib.hid hk
            clear hpp hk
            go_wp2
            obtain ⟨m, hm, hm2⟩ := HK.out
            have hpos : (0 : Int) < 10 ^ m := Int.pow_pos (by omega)
            go_roundg (m + 1)
            case measure => omega
            case rel => exact ⟨m, s, p / 10, rfl, rfl, hm2, by omega, by omega, rfl, rfl, by omega, by omega, hsn⟩
theorem i64_and32 (n : Int) : bits .and .i64 n 4294967295 = n % 4294967296 := by
  have hm : (BitVec.ofInt 64 4294967295).toNat = 2 ^ 32 - 1 := by decide
  have key : (BitVec.ofInt 64 n &&& BitVec.ofInt 64 4294967295).toNat = (n % ((2 ^ 64 : Nat) : Int)).toNat % 2 ^ 32 := by
    rw [BitVec.toNat_and, BitVec.toNat_ofInt, hm, Nat.and_two_pow_sub_one_eq_mod]
  show IntKind.i64.wrap ((BitVec.ofInt 64 n &&& BitVec.ofInt 64 4294967295).toNat : Nat) = n % 4294967296
  rw [key, IntKind.wrap_i64]
  omega
theorem i64_and10 (n : Int) : bits .and .i64 n 1023 = n % 1024 := by
  have hm : (BitVec.ofInt 64 1023).toNat = 2 ^ 10 - 1 := by decide
  have key : (BitVec.ofInt 64 n &&& BitVec.ofInt 64 1023).toNat = (n % ((2 ^ 64 : Nat) : Int)).toNat % 2 ^ 10 := by
    rw [BitVec.toNat_and, BitVec.toNat_ofInt, hm, Nat.and_two_pow_sub_one_eq_mod]
  show IntKind.i64.wrap ((BitVec.ofInt 64 n &&& BitVec.ofInt 64 1023).toNat : Nat) = n % 1024
  rw [key, IntKind.wrap_i64]
  omega
theorem i64_and4 (n : Int) : bits .and .i64 n 15 = n % 16 := by
  have hm : (BitVec.ofInt 64 15).toNat = 2 ^ 4 - 1 := by decide
  have key : (BitVec.ofInt 64 n &&& BitVec.ofInt 64 15).toNat = (n % ((2 ^ 64 : Nat) : Int)).toNat % 2 ^ 4 := by
    rw [BitVec.toNat_and, BitVec.toNat_ofInt, hm, Nat.and_two_pow_sub_one_eq_mod]
  show IntKind.i64.wrap ((BitVec.ofInt 64 n &&& BitVec.ofInt 64 15).toNat : Nat) = n % 16
  rw [key, IntKind.wrap_i64]
  omega
theorem add64 (x y c : Int) (hx : 0 ≤ x) (hy : 0 ≤ y) (hc0 : 0 ≤ c) (hc : c ≤ 1) (w : World) : (callFunc 20 #[.int .u64 x, .int .u64 y, .int .u64 c]).run Try.prog w =
    .ok (.value (.tuple #[.int .u64 ((x + y + c) % 18446744073709551616), .int .u64 ((x + y + c) / 18446744073709551616)])) w := by
  rw [run_callFunc_extern (f := 20) (fn := Try.f20) (e := add64Entry) Try.func20 (by kernel_rfl) (by kernel_rfl) (by kernel_rfl) (by kernel_rfl), run_add64 x y c hx hy hc0 hc]
  rfl
def addS (x y c : Int) : Int := (x + y + c) % 18446744073709551616
def addC (x y c : Int) : Int := (x + y + c) / 18446744073709551616
theorem add64' (x y c : Int) (hx : 0 ≤ x) (hy : 0 ≤ y) (hc0 : 0 ≤ c) (hc : c ≤ 1) (w : World) : (callFunc 20 #[.int .u64 x, .int .u64 y, .int .u64 c]).run Try.prog w =
    .ok (.value (.tuple #[.int .u64 (addS x y c), .int .u64 (addC x y c)])) w := add64 x y c hx hy hc0 hc w
def hiW (S : Int) : Int := (S / 18446744073709551616) % 18446744073709551616
def loW (S : Int) : Int := S % 18446744073709551616
theorem hiW_bd (S : Int) : 0 ≤ hiW S ∧ hiW S ≤ 18446744073709551615 := by unfold hiW; omega
theorem loW_bd (S : Int) : 0 ≤ loW S ∧ loW S ≤ 18446744073709551615 := by unfold loW; omega
theorem u64w (x : Int) : IntKind.u64.wrap x = loW x := by
  simp [IntKind.wrap, IntKind.bits, IntKind.signed, loW]
theorem addS_bd (x y c : Int) : 0 ≤ addS x y c := by unfold addS; omega
theorem addC_bd (x y c : Int) (hx : 0 ≤ x) (hx1 : x ≤ 18446744073709551615) (hy : 0 ≤ y) (hy1 : y ≤ 18446744073709551615) (hc0 : 0 ≤ c) (hc : c ≤ 1) : 0 ≤ addC x y c ∧ addC x y c ≤ 1 := by unfold addC; omega
theorem lo_step (S x : Int) : addS (loW S) (loW x) 0 = loW (S + x) := by unfold addS loW; omega
theorem hi_step (S x : Int) (h1 : -9223372036854775808 ≤ x) (h2 : x ≤ 9223372036854775807) : addS (hiW S) (loW (x / 9223372036854775808)) (addC (loW S) (loW x) 0) = hiW (S + x) := by
  unfold addS addC hiW loW
  by_cases h : 0 ≤ x
  · have e1 : x / 9223372036854775808 = 0 := by omega
    have e2 : x % 18446744073709551616 = x := by omega
    rw [e1, e2]; omega
  · have e1 : x / 9223372036854775808 = -1 := by omega
    have e2 : x % 18446744073709551616 = x + 18446744073709551616 := by omega
    rw [e1, e2]; omega
theorem take_sum (xs : List Int) (k : Nat) (h : k < xs.length) : (xs.take (k + 1)).sum = (xs.take k).sum + xs.getD k 0 := by
  rw [List.take_succ_eq_append_getElem h, List.sum_append]
  simp [List.getD_eq_getElem?_getD, h]
theorem sum_bd (xs : List Int) (hb : ∀ x ∈ xs, -9223372036854775808 ≤ x ∧ x ≤ 9223372036854775807) : -9223372036854775808 * xs.length ≤ xs.sum ∧ xs.sum ≤ 9223372036854775807 * xs.length := by
  induction xs with
  | nil => simp
  | cons a l ih =>
    have h1 := hb a (by simp)
    have h2 := ih (fun x hx => hb x (by simp [hx]))
    simp only [List.sum_cons, List.length_cons]
    omega
theorem w64 (x : Int) (h0 : 0 ≤ x) (h1 : x ≤ 18446744073709551615) : wrap64 x = if x < 9223372036854775808 then x else x - 18446744073709551616 := by
  unfold wrap64; split <;> omega
theorem sum_in (S : Int) (h1 : -170141183460469231731687303715884105728 < S) (h2 : S < 170141183460469231731687303715884105728)
    (h : hiW S = loW (wrap64 (loW S) / 9223372036854775808)) : wrap64 (loW S) = clampV S (-9223372036854775808) 9223372036854775807 := by
  have hb := loW_bd S
  rw [w64 _ hb.1 hb.2] at h ⊢
  unfold clampV
  unfold hiW loW at *
  by_cases hs : S % 18446744073709551616 < 9223372036854775808
  · rw [if_pos hs] at h ⊢; omega
  · rw [if_neg hs] at h ⊢; omega
theorem sum_out (S : Int) (h1 : -170141183460469231731687303715884105728 < S) (h2 : S < 170141183460469231731687303715884105728)
    (h : ¬ hiW S = loW (wrap64 (loW S) / 9223372036854775808)) : (wrap64 (hiW S) < 0 → S < -9223372036854775808) ∧ (0 ≤ wrap64 (hiW S) → 9223372036854775807 < S) := by
  have hb := loW_bd S
  have hb2 := hiW_bd S
  rw [w64 _ hb.1 hb.2] at h
  rw [w64 _ hb2.1 hb2.2]
  unfold hiW loW at *
  by_cases hs : S % 18446744073709551616 < 9223372036854775808
  · rw [if_pos hs] at h; split <;> omega
  · rw [if_neg hs] at h; split <;> omega
theorem sum_any (A : Option Addr) (xs : List Int) (cap : Nat) (w : World) (hl : xs.length ≤ 300) (hr : RdI w A xs) (hb : ∀ k, k < xs.length → -9223372036854775808 ≤ xs.getD k 0 ∧ xs.getD k 0 ≤ 9223372036854775807) : 
    Calls Try.prog 17 #[.slice A xs.length cap] w fun e w' => e = .returned (.int .i64 (clampV xs.sum (-9223372036854775808) 9223372036854775807)) ∧ w = w' := by
  have HB := Lib.hid hb
  have HR := Lib.hid hr
  clear hb hr
  go_enter Try.func17, Try.ntmps17
  go_wp2
  go_loopg [3, 4, 10] xs.length (fun g hi lo i wr => ∃ (k : Nat) (h l : Int), wr = w ∧ k ≤ xs.length ∧ g = xs.length - k ∧ i = .int .i64 k ∧ hi = .int .u64 h ∧ lo = .int .u64 l ∧ Hid (h = hiW (xs.take k).sum) ∧ Hid (l = loW (xs.take k).sum))
  case atStart => exact ⟨0, 0, 0, rfl, by omega, by omega, rfl, rfl, rfl, rfl, rfl⟩
  case round =>
    obtain ⟨k, h, l, rfl, hk, hg, rfl, rfl, rfl, Hh, Hl⟩ := hrel
    have HG := Lib.hid hg
    clear hg
    have hh1 : 0 ≤ h ∧ h ≤ 18446744073709551615 := by rw [Hh.out]; exact hiW_bd _
    have hl1 : 0 ≤ l ∧ l ≤ 18446744073709551615 := by rw [Hl.out]; exact loW_bd _
    by_cases hlt : k < xs.length
    · obtain ⟨b, off, rfl, hbs, hc⟩ := HR.out (by omega)
      have hcell := hc k hlt
      clear hc
      obtain ⟨hx1, hx2⟩ := HB.out k hlt
      obtain ⟨x, hx⟩ : ∃ x, x = xs.getD k 0 := ⟨_, rfl⟩
      rw [← hx] at hcell hx1 hx2
      have HX := Lib.hid hx
      clear hx
      have hw1 := loW_bd x
      have hw2 := loW_bd (x / 9223372036854775808)
      have hc1 := addC_bd l (loW x) 0 hl1.1 hl1.2 hw1.1 hw1.2 (by omega) (by omega)
      obtain ⟨hh1, hh2⟩ := hh1
      obtain ⟨hl1, hl2⟩ := hl1
      obtain ⟨hw1, hw1'⟩ := hw1
      obtain ⟨hw2, hw2'⟩ := hw2
      obtain ⟨hc1, hc2⟩ := hc1
      go_wp2_with (first | simp only [u64w, add64' l (loW x) 0 hl1 hw1 (by omega) (by omega)] | simp only [add64' h (loW (x / 9223372036854775808)) (addC l (loW x) 0) hh1 hw2 hc1 hc2])
      go_roundg (xs.length - (k + 1))
      case measure => have := HG.out; omega
      case rel => exact ⟨k + 1, _, _, rfl, by omega, rfl, by go_num, rfl, rfl, by rw [Hh.out, Hl.out, hi_step _ _ hx1 hx2, take_sum _ _ hlt, HX.out]; rfl, by rw [Hl.out, lo_step, take_sum _ _ hlt, HX.out]; rfl⟩
    · obtain rfl : k = xs.length := by omega
      rw [List.take_length] at Hh Hl
      have hbd : -170141183460469231731687303715884105728 < xs.sum ∧ xs.sum < 170141183460469231731687303715884105728 := by
        have := sum_bd xs (fun x hx => by
          obtain ⟨i, hi, rfl⟩ := List.getElem_of_mem hx
          have := HB.out i hi
          simpa [List.getD_eq_getElem?_getD, hi] using this)
        omega
      by_cases ht : h = loW (wrap64 l / 9223372036854775808)
      · have hv := sum_in xs.sum hbd.1 hbd.2 (by rw [← Hh.out, ← Hl.out]; exact ht)
        have ht' : (h == IntKind.u64.wrap (wrap64 l / 9223372036854775808)) = true := by rw [u64w]; simpa using ht
        have HV := Lib.hid hv
        clear ht hv hbd
        go_wp2
        go_ret
        exact ⟨ret_int (by rw [← HV.out, Hl.out]), rfl⟩
      · have hv := sum_out xs.sum hbd.1 hbd.2 (by rw [← Hh.out, ← Hl.out]; exact ht)
        have ht' : (h == IntKind.u64.wrap (wrap64 l / 9223372036854775808)) = false := by rw [u64w]; simpa using ht
        rw [← Hh.out] at hv
        have HV := Lib.hid hv
        clear ht hv hbd
        by_cases hn : wrap64 h < 0
        · go_wp2
          go_ret
          exact ⟨ret_int (by have := HV.out.1 hn; unfold clampV; omega), rfl⟩
        · have hn' : 0 ≤ wrap64 h := by omega
          go_wp2
          go_ret
          exact ⟨ret_int (by have := HV.out.2 hn'; unfold clampV; omega), rfl⟩
theorem rsum_any (A : Option Addr) (xs : List Int) (cap : Nat) (w : World) (hl : xs.length ≤ 300) (hr : RdI w A xs) (hb : ∀ k, k < xs.length → -9223372036854775808 ≤ xs.getD k 0 ∧ xs.getD k 0 ≤ 9223372036854775807) : 
    Calls Try.prog 18 #[.slice A xs.length cap] w fun e w' => e = .returned (.int .i64 (clampV xs.sum (-9223372036854775808) 9223372036854775807)) ∧ w = w' := by
  have HB := Lib.hid hb
  have HR := Lib.hid hr
  clear hb hr
  go_enter Try.func18, Try.ntmps18
  go_wp2
  go_loopg [3, 4, 9] xs.length (fun g hi lo i wr => ∃ (k : Nat) (h l : Int), wr = w ∧ k ≤ xs.length ∧ g = xs.length - k ∧ i = .int .i64 k ∧ hi = .int .i64 h ∧ lo = .int .i64 l ∧ Hid (h * 4294967296 + l = (xs.take k).sum) ∧ -2147483648 * k ≤ h ∧ h ≤ 2147483647 * k ∧ 0 ≤ l ∧ l ≤ 4294967295 * k)
  case atStart => exact ⟨0, 0, 0, rfl, by omega, by omega, rfl, rfl, rfl, rfl, by omega, by omega, by omega, by omega⟩
  case round =>
    obtain ⟨k, h, l, rfl, hk, hg, rfl, rfl, rfl, HS, hh1, hh2, hl1, hl2⟩ := hrel
    have HG := Lib.hid hg
    clear hg
    by_cases hlt : k < xs.length
    · obtain ⟨b, off, rfl, hbs, hc⟩ := HR.out (by omega)
      have hcell := hc k hlt
      clear hc
      obtain ⟨hx1, hx2⟩ := HB.out k hlt
      obtain ⟨x, hx⟩ : ∃ x, x = xs.getD k 0 := ⟨_, rfl⟩
      rw [← hx] at hcell hx1 hx2
      have HX := Lib.hid hx
      clear hx
      obtain ⟨m, hm, hm0⟩ : ∃ m, bits .and .i64 x 4294967295 = m ∧ m = x % 4294967296 := ⟨_, rfl, i64_and32 x⟩
      have hm1 : 0 ≤ m := by omega
      have hm2 : m ≤ 4294967295 := by omega
      have HM := Lib.hid hm0
      clear hm0
      go_wp2
      go_roundg (xs.length - (k + 1))
      case measure => have := HG.out; omega
      case rel => exact ⟨k + 1, _, _, rfl, by omega, rfl, by go_num, rfl, rfl, by show _ = _; rw [take_sum _ _ hlt, ← HX.out, ← HS.out, HM.out]; omega, by omega, by omega, by omega, by omega⟩
    · obtain rfl : k = xs.length := by omega
      rw [List.take_length] at HS
      obtain ⟨m, hm, hm0⟩ : ∃ m, bits .and .i64 l 4294967295 = m ∧ m = l % 4294967296 := ⟨_, rfl, i64_and32 l⟩
      have hm1 : 0 ≤ m := by omega
      have hm2 : m ≤ 4294967295 := by omega
      have HM := Lib.hid hm0
      clear hm0
      go_wp2
      all_goals go_ret
      all_goals refine ⟨ret_int ?_, rfl⟩
      all_goals have h1 := HM.out
      all_goals have h2 := HS.out
      all_goals unfold clampV
      all_goals omega
end Go.Proofs.Ytlnhdhkggiondaa
