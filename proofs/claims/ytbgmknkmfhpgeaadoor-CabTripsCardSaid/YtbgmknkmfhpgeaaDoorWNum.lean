/- Walks of package num (and of its reference): what each function returns. -/
import Derived.Test.YtbgmknkmfhpgeaaDoorKit
import Derived.Test.YtbgmknkmfhpgeaaDoorPAll
import Derived.Deep.LoopGhost
import Derived.Laws.Externs
import Derived.Laws.BitsAllLaws
import Derived.Laws.BitsLemmas
namespace Go.Proofs.YtbgmknkmfhpgeaaDoor
open Go.ChangeShapes Go.WideShapes Go.ChangeAt Go.RowKit
open Sg

theorem div_any (a b : Int) (w : World) : Calls Tryd.prog 130 #[.int .i64 a, .int .i64 b] w fun e w' => e = .returned (.int .i64 (divE a b)) ∧ w = w' := by
  go_enter Tryd.func130, Tryd.ntmps130
  go_wp2
  all_goals go_ret
  all_goals refine ⟨ret_int ?_, rfl⟩
  all_goals simp_all [divE]
theorem floor_any (a b : Int) (w : World) (ha1 : -9223372036854775808 ≤ a) (ha2 : a ≤ 9223372036854775807) : Calls Tryd.prog 117 #[.int .i64 a, .int .i64 b] w fun e w' => e = .returned (.tuple #[.int .i64 (floV a b), .int .i64 (divE a b)]) ∧ w = w' := by
  by_cases hd : divE a b = 0
  · obtain ⟨hb, h17⟩ := divE_zero hd
    obtain ⟨hq1, hq2⟩ := quo_bd a b ha1 ha2 hb h17
    have HD := Lib.hid hd
    have h1 : (divE a b != 0) = false := by simp [hd]
    clear hd h17
    by_cases hm : a.tmod b = 0
    · have HV := Lib.hid (floV_zero HD.out hm)
      have hm' : (a.tmod b != 0) = false := by simp [hm]
      clear hm
      go_enter Tryd.func117, Tryd.ntmps117
      go_wp2_with (go_at_call 130; refine (div_any _ _ _).mono ?_; rintro e w' ⟨rfl, rfl⟩)
      go_ret2
      exact ⟨ret_int2 HV.out.symm HD.out.symm, rfl⟩
    · have HM := Lib.hid hm
      obtain ⟨hq3, hq4⟩ := quo_bd2 a b ha1 ha2 hb hm
      have hm' : (a.tmod b != 0) = true := by simp [hm]
      clear hm
      by_cases hs : (a < 0 ∧ 0 ≤ b) ∨ (0 ≤ a ∧ b < 0)
      · have HV := Lib.hid (floV_down HD.out HM.out hs)
        have h2 : (!decide (a < 0) == decide (b < 0)) = true := by
          rcases hs with ⟨h1, h2⟩ | ⟨h1, h2⟩ <;> simp [h1, h2] <;> omega
        clear hs
        go_enter Tryd.func117, Tryd.ntmps117
        go_wp2_with (go_at_call 130; refine (div_any _ _ _).mono ?_; rintro e w' ⟨rfl, rfl⟩)
        go_ret2
        exact ⟨ret_int2 HV.out.symm HD.out.symm, rfl⟩
      · have hs' : (a < 0 ∧ b < 0) ∨ (0 ≤ a ∧ 0 ≤ b) := by omega
        have HV := Lib.hid (floV_same HD.out HM.out hs')
        have h2 : (!decide (a < 0) == decide (b < 0)) = false := by
          rcases hs' with ⟨h1, h2⟩ | ⟨h1, h2⟩ <;> simp [h1, h2] <;> omega
        clear hs hs'
        go_enter Tryd.func117, Tryd.ntmps117
        go_wp2_with (go_at_call 130; refine (div_any _ _ _).mono ?_; rintro e w' ⟨rfl, rfl⟩)
        go_ret2
        exact ⟨ret_int2 HV.out.symm HD.out.symm, rfl⟩
  · have h1 : (divE a b != 0) = true := by simp [hd]
    have HV := Lib.hid (floV_bad hd)
    clear hd
    go_enter Tryd.func117, Tryd.ntmps117
    go_wp2_with (go_at_call 130; refine (div_any _ _ _).mono ?_; rintro e w' ⟨rfl, rfl⟩)
    go_ret2
    exact ⟨ret_int2 HV.out.symm rfl, rfl⟩
theorem clamp_any (n lo hi : Int) (w : World) : Calls Tryd.prog 84 #[.int .i64 n, .int .i64 lo, .int .i64 hi] w fun e w' => e = .returned (.int .i64 (clampV n lo hi)) ∧ w = w' := by
  go_enter Tryd.func84, Tryd.ntmps84
  go_wp2
  all_goals go_ret
  all_goals refine ⟨ret_int ?_, rfl⟩
  all_goals unfold clampV
  all_goals omega
theorem rclamp_any (n lo hi : Int) (w : World) : Calls Tryd.prog 88 #[.int .i64 n, .int .i64 lo, .int .i64 hi] w fun e w' => e = .returned (.int .i64 (clampV n lo hi)) ∧ w = w' := by
  go_enter Tryd.func88, Tryd.ntmps88
  go_wp2
  all_goals go_ret
  all_goals refine ⟨ret_int ?_, rfl⟩
  all_goals unfold clampV
  all_goals omega
theorem i64_and32 (n : Int) : bits .and .i64 n 4294967295 = n % 4294967296 := by
  have hm : (BitVec.ofInt 64 4294967295).toNat = 2 ^ 32 - 1 := by decide
  have key : (BitVec.ofInt 64 n &&& BitVec.ofInt 64 4294967295).toNat = (n % ((2 ^ 64 : Nat) : Int)).toNat % 2 ^ 32 := by
    rw [BitVec.toNat_and, BitVec.toNat_ofInt, hm, Nat.and_two_pow_sub_one_eq_mod]
  show IntKind.i64.wrap ((BitVec.ofInt 64 n &&& BitVec.ofInt 64 4294967295).toNat : Nat) = n % 4294967296
  rw [key, IntKind.wrap_i64]
  omega
theorem i64_and10 (n : Int) : bits .and .i64 n 1023 = n % 1024 := by
  have hm : (BitVec.ofInt 64 1023).toNat = 2 ^ 10 - 1 := by decide
  have key : (BitVec.ofInt 64 n &&& BitVec.ofInt 64 1023).toNat = (n % ((2 ^ 64 : Nat) : Int)).toNat % 2 ^ 10 := by
    rw [BitVec.toNat_and, BitVec.toNat_ofInt, hm, Nat.and_two_pow_sub_one_eq_mod]
  show IntKind.i64.wrap ((BitVec.ofInt 64 n &&& BitVec.ofInt 64 1023).toNat : Nat) = n % 1024
  rw [key, IntKind.wrap_i64]
  omega
theorem i64_and4 (n : Int) : bits .and .i64 n 15 = n % 16 := by
  have hm : (BitVec.ofInt 64 15).toNat = 2 ^ 4 - 1 := by decide
  have key : (BitVec.ofInt 64 n &&& BitVec.ofInt 64 15).toNat = (n % ((2 ^ 64 : Nat) : Int)).toNat % 2 ^ 4 := by
    rw [BitVec.toNat_and, BitVec.toNat_ofInt, hm, Nat.and_two_pow_sub_one_eq_mod]
  show IntKind.i64.wrap ((BitVec.ofInt 64 n &&& BitVec.ofInt 64 15).toNat : Nat) = n % 16
  rw [key, IntKind.wrap_i64]
  omega
end Go.Proofs.YtbgmknkmfhpgeaaDoor
