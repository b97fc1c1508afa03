/- Several texts in one: WNum, WTrain, WWords, WTChk, WBrake. -/
import Derived.Test.YticonpjkcocgeaaDoorKAll
import Derived.Test.YticonpjkcocgeaaDoorPAll
import Derived.Deep.LoopGhost
import Derived.Laws.Externs
import Derived.Laws.BitsAllLaws
import Derived.Laws.BitsLemmas
import Derived.Laws.RangeAny
import Derived.Laws.Strings
import Derived.Deep.Cut
import Derived.BigQuiet
import Derived.Deep.QuietTactic
import Derived.WalkMore
import Derived.ScopeJumps
namespace Go.Proofs.YticonpjkcocgeaaDoor
open Go.ChangeShapes Go.WideShapes Go.ChangeAt Go.RowKit
open Sg

theorem div_any (a b : Int) (w : World) : Calls Tryd.prog 71 #[.int .i64 a, .int .i64 b] w fun e w' => e = .returned (.int .i64 (divE a b)) ∧ w = w' := by
  go_enter Tryd.func71, Tryd.ntmps71
  go_wp2
  all_goals go_ret
  all_goals refine ⟨ret_int ?_, rfl⟩
  all_goals simp_all [divE]
theorem floor_any (a b : Int) (w : World) (ha1 : -9223372036854775808 ≤ a) (ha2 : a ≤ 9223372036854775807) : Calls Tryd.prog 42 #[.int .i64 a, .int .i64 b] w fun e w' => e = .returned (.tuple #[.int .i64 (floV a b), .int .i64 (divE a b)]) ∧ w = w' := by
  by_cases hd : divE a b = 0
  · obtain ⟨hb, h17⟩ := divE_zero hd
    obtain ⟨hq1, hq2⟩ := quo_bd a b ha1 ha2 hb h17
    have HD := Lib.hid hd
    have h1 : (divE a b != 0) = false := by simp [hd]
    clear hd h17
    by_cases hm : a.tmod b = 0
    · have HV := Lib.hid (floV_zero HD.out hm)
      have hm' : (a.tmod b != 0) = false := by simp [hm]
      clear hm
      go_enter Tryd.func42, Tryd.ntmps42
      go_wp2_with (go_at_call 71; refine (div_any _ _ _).mono ?_; rintro e w' ⟨rfl, rfl⟩)
      go_ret2
      exact ⟨ret_int2 HV.out.symm HD.out.symm, rfl⟩
    · have HM := Lib.hid hm
      obtain ⟨hq3, hq4⟩ := quo_bd2 a b ha1 ha2 hb hm
      have hm' : (a.tmod b != 0) = true := by simp [hm]
      clear hm
      by_cases hs : (a < 0 ∧ 0 ≤ b) ∨ (0 ≤ a ∧ b < 0)
      · have HV := Lib.hid (floV_down HD.out HM.out hs)
        have h2 : (!decide (a < 0) == decide (b < 0)) = true := by
          rcases hs with ⟨h1, h2⟩ | ⟨h1, h2⟩ <;> simp [h1, h2] <;> omega
        clear hs
        go_enter Tryd.func42, Tryd.ntmps42
        go_wp2_with (go_at_call 71; refine (div_any _ _ _).mono ?_; rintro e w' ⟨rfl, rfl⟩)
        go_ret2
        exact ⟨ret_int2 HV.out.symm HD.out.symm, rfl⟩
      · have hs' : (a < 0 ∧ b < 0) ∨ (0 ≤ a ∧ 0 ≤ b) := by omega
        have HV := Lib.hid (floV_same HD.out HM.out hs')
        have h2 : (!decide (a < 0) == decide (b < 0)) = false := by
          rcases hs' with ⟨h1, h2⟩ | ⟨h1, h2⟩ <;> simp [h1, h2] <;> omega
        clear hs hs'
        go_enter Tryd.func42, Tryd.ntmps42
        go_wp2_with (go_at_call 71; refine (div_any _ _ _).mono ?_; rintro e w' ⟨rfl, rfl⟩)
        go_ret2
        exact ⟨ret_int2 HV.out.symm HD.out.symm, rfl⟩
  · have h1 : (divE a b != 0) = true := by simp [hd]
    have HV := Lib.hid (floV_bad hd)
    clear hd
    go_enter Tryd.func42, Tryd.ntmps42
    go_wp2_with (go_at_call 71; refine (div_any _ _ _).mono ?_; rintro e w' ⟨rfl, rfl⟩)
    go_ret2
    exact ⟨ret_int2 HV.out.symm rfl, rfl⟩
theorem clamp_any (n lo hi : Int) (w : World) : Calls Tryd.prog 41 #[.int .i64 n, .int .i64 lo, .int .i64 hi] w fun e w' => e = .returned (.int .i64 (clampV n lo hi)) ∧ w = w' := by
  go_enter Tryd.func41, Tryd.ntmps41
  go_wp2
  all_goals go_ret
  all_goals refine ⟨ret_int ?_, rfl⟩
  all_goals unfold clampV
  all_goals omega
theorem i64_and32 (n : Int) : bits .and .i64 n 4294967295 = n % 4294967296 := by
  have hm : (BitVec.ofInt 64 4294967295).toNat = 2 ^ 32 - 1 := by decide
  have key : (BitVec.ofInt 64 n &&& BitVec.ofInt 64 4294967295).toNat = (n % ((2 ^ 64 : Nat) : Int)).toNat % 2 ^ 32 := by
    rw [BitVec.toNat_and, BitVec.toNat_ofInt, hm, Nat.and_two_pow_sub_one_eq_mod]
  show IntKind.i64.wrap ((BitVec.ofInt 64 n &&& BitVec.ofInt 64 4294967295).toNat : Nat) = n % 4294967296
  rw [key, IntKind.wrap_i64]
  omega
theorem i64_and10 (n : Int) : bits .and .i64 n 1023 = n % 1024 := by
  have hm : (BitVec.ofInt 64 1023).toNat = 2 ^ 10 - 1 := by decide
  have key : (BitVec.ofInt 64 n &&& BitVec.ofInt 64 1023).toNat = (n % ((2 ^ 64 : Nat) : Int)).toNat % 2 ^ 10 := by
    rw [BitVec.toNat_and, BitVec.toNat_ofInt, hm, Nat.and_two_pow_sub_one_eq_mod]
  show IntKind.i64.wrap ((BitVec.ofInt 64 n &&& BitVec.ofInt 64 1023).toNat : Nat) = n % 1024
  rw [key, IntKind.wrap_i64]
  omega
theorem i64_and4 (n : Int) : bits .and .i64 n 15 = n % 16 := by
  have hm : (BitVec.ofInt 64 15).toNat = 2 ^ 4 - 1 := by decide
  have key : (BitVec.ofInt 64 n &&& BitVec.ofInt 64 15).toNat = (n % ((2 ^ 64 : Nat) : Int)).toNat % 2 ^ 4 := by
    rw [BitVec.toNat_and, BitVec.toNat_ofInt, hm, Nat.and_two_pow_sub_one_eq_mod]
  show IntKind.i64.wrap ((BitVec.ofInt 64 n &&& BitVec.ofInt 64 15).toNat : Nat) = n % 16
  rw [key, IntKind.wrap_i64]
  omega
end Go.Proofs.YticonpjkcocgeaaDoor

set_option linter.unusedVariables false
set_option linter.unusedSimpArgs false
namespace Go.Proofs.YticonpjkcocgeaaDoor
open Go.ChangeShapes Go.WideShapes Go.ChangeAt Go.RowKit
open Sg

theorem getD_byte (s : ByteArray) (k : Nat) (h : k < s.size) : s.data.toList.getD k 0 = s[k] := by
  rw [List.getD_eq_getElem?_getD, List.getElem?_eq_getElem (by simpa using h)]; rfl
theorem rname_any (s : ByteArray) (w : World) (hs : s.size ≤ maxLen) : Calls Tryd.prog 69 #[.string s] w fun e w' => e = .returned (.bool (nameB s.data.toList)) ∧ w = w' := by
  unfold maxLen at hs
  have hl : s.data.toList.length = s.size := by simp
  have HL := Lib.hid hl
  clear hl
  go_enter Tryd.func69, Tryd.ntmps69
  go_wp2
  go_loopg [3] s.size (fun g i wr => ∃ k : Nat, wr = w ∧ k ≤ s.size ∧ g = s.size - k ∧ i = .int .i64 k ∧ Hid (okTo s.data.toList k))
  case atStart => exact ⟨0, rfl, by omega, rfl, rfl, okTo_zero _⟩
  case round =>
    obtain ⟨k, rfl, hk, hg, rfl, hok⟩ := hrel
    have HG := Lib.hid hg
    clear hg
    by_cases hlt : k < s.size
    · obtain ⟨c, hc⟩ : ∃ c : Int, c = ((s[k].toNat : Nat) : Int) := ⟨_, rfl⟩
      have HC := Lib.hid hc
      by_cases hg : okI k c = true
      · have HS := Lib.hid (okTo_succ hok.out (by rw [getD_byte s k hlt, ← hc]; exact hg))
        have hg' : (97 ≤ c ∧ c ≤ 122) ∨ (c < 97 ∧ 48 ≤ c ∧ c ≤ 57 ∧ ((k : Int) == 0) = false) ∨ (c < 97 ∧ 57 < c ∧ (c == 95) = true ∧ ((k : Int) == 0) = false) := by
          unfold okI at hg; simp at hg ⊢; omega
        clear hg
        rcases hg' with ⟨h1, h2⟩ | ⟨h1, h2, h3, h4⟩ | ⟨h1, h2, h3, h4⟩
        all_goals rw [hc] at *
        all_goals clear hc
        all_goals go_wp2
        all_goals go_roundg (s.size - (k + 1))
        all_goals first | (case measure => have := HG.out; omega) | skip
        all_goals exact ⟨k + 1, rfl, by omega, rfl, by go_num, HS.out⟩
      · have HE := Lib.hid (nameB_bad (l := s.data.toList) (k := k) (by rw [HL.out]; exact hlt) (by rw [getD_byte s k hlt, ← hc]; simpa using hg))
        have hg' : (c < 48 ∧ (c == 95) = false) ∨ (57 < c ∧ c < 97 ∧ (c == 95) = false) ∨ (c < 97 ∧ 48 ≤ c ∧ c ≤ 57 ∧ ((k : Int) == 0) = true) ∨ (c < 97 ∧ 57 < c ∧ (c == 95) = true ∧ ((k : Int) == 0) = true) ∨ (122 < c ∧ decide (c ≤ 122) = false ∧ (c == 95) = false) := by
          unfold okI at hg; simp at hg ⊢; omega
        clear hg
        rcases hg' with ⟨h1, h2⟩ | ⟨h1, h2, h3⟩ | ⟨h1, h2, h3, h4⟩ | ⟨h1, h2, h3, h4⟩ | ⟨h1, h2, h3⟩
        all_goals rw [hc] at *
        all_goals clear hc
        all_goals go_wp2
        all_goals go_ret
        all_goals exact ⟨ret_bool HE.out.symm, rfl⟩
    · obtain rfl : k = s.size := by omega
      have HE : Hid (nameB s.data.toList = (decide (1 ≤ s.size) && decide (s.size ≤ 12))) := by
        have := nameB_all (l := s.data.toList) (by rw [HL.out]; exact hok.out)
        rwa [HL.out] at this
      by_cases h1 : (1 : Int) ≤ s.size
      · by_cases h2 : (s.size : Int) ≤ 12
        all_goals go_wp2
        all_goals go_ret
        all_goals exact ⟨ret_bool (by rw [HE.out, Bool.eq_iff_iff]; simp; omega), rfl⟩
      · go_wp2
        go_ret
        exact ⟨ret_bool (by rw [HE.out, Bool.eq_iff_iff]; simp; omega), rfl⟩
theorem in_any (n lo hi : Int) (w : World) : Calls Tryd.prog 70 #[.int .i64 n, .int .i64 lo, .int .i64 hi] w fun e w' => e = .returned (.bool (inB n lo hi)) ∧ w = w' := by
  by_cases h1 : lo ≤ n
  · have HE : Hid (inB n lo hi = decide (n ≤ hi)) := by show _ = _; simp [inB, h1]
    go_enter Tryd.func70, Tryd.ntmps70
    go_wp2
    go_ret
    exact ⟨ret_bool HE.out.symm, rfl⟩
  · have h1' : decide (lo ≤ n) = false := by simpa using h1
    have HE : Hid (inB n lo hi = false) := by show _ = _; simp [inB, h1']
    go_enter Tryd.func70, Tryd.ntmps70
    go_wp2
    go_ret
    exact ⟨ret_bool HE.out.symm, rfl⟩
set_option maxHeartbeats 1000000 in
theorem rcheck_any (T : Tr) (w : World) (hs : T.name.size ≤ maxLen) : Calls Tryd.prog 40 #[.agg #[.int .i64 T.id, .string T.name, .int .i64 T.len, .int .i64 T.speed, .int .i64 T.accel, .int .i64 T.service, .int .i64 T.emergency, .int .i64 T.delay, .int .i64 T.cons, .int .i64 T.rate]] w fun e w' => e = .returned (.int .i64 (chkE T)) ∧ Below w.heap.size w w' := by
  have HE : Hid (chkE T = _) := chkE.eq_def T
  obtain ⟨b, hb⟩ : ∃ b, nameB T.name.data.toList = b := ⟨_, rfl⟩
  have HB := Lib.hid hb
  cases b
  all_goals go_enter Tryd.func40, Tryd.ntmps40
  all_goals go_wp2_with (first
    | (go_at_call 69; refine (rname_any _ _ hs).mono ?_; rintro e w' ⟨rfl, rfl⟩)
    | (go_at_call 70; refine (in_any _ _ _ _).mono ?_; rintro e w' ⟨rfl, rfl⟩))
  all_goals go_ret
  all_goals refine ⟨ret_int ?_, (Below.refl _ _).alloc (Nat.le_refl _) _⟩
  all_goals rw [HE.out]
  all_goals clear HE
  all_goals rw [HB.out]
  all_goals try simp only [Bool.not_eq_true', Bool.not_eq_false'] at *
  all_goals simp [*]
end Go.Proofs.YticonpjkcocgeaaDoor

set_option linter.unusedVariables false
set_option linter.unusedSimpArgs false
namespace Go.Proofs.YticonpjkcocgeaaDoor
open Go.ChangeShapes Go.WideShapes Go.ChangeAt Go.RowKit
open Sg

theorem byte_at (s : ByteArray) (k : Nat) (h : k < s.size) : s.data.toList.getD k 0 = s[k] := by
  rw [List.getD_eq_getElem?_getD, List.getElem?_eq_getElem (by simpa using h)]; rfl
theorem str_some {s : ByteArray} (h : 0 < s.size) : s.toList.isEmpty = false ∧ ¬ s.toList = [] := by
  have e := ByteArray.toList_eq s
  have : s.data.toList.length = s.size := by simp
  have h2 : ¬ s.toList = [] := by rw [e]; intro h0; rw [h0] at this; simp at this; omega
  exact ⟨by cases hh : s.toList with | nil => exact absurd hh h2 | cons _ _ => rfl, h2⟩
theorem str_none {s : ByteArray} (h : ¬ 0 < s.size) : s.toList.isEmpty = true ∧ s.toList = [] := by
  have e := ByteArray.toList_eq s
  have h3 : s.data.toList.length = s.size := by simp
  have h2 : s.toList = [] := by rw [e]; exact List.eq_nil_of_length_eq_zero (by omega)
  exact ⟨by rw [h2]; rfl, h2⟩
set_option maxHeartbeats 4000000 in
theorem wname_any (s : ByteArray) (w : World) (hs : s.size ≤ maxLen) : Calls Tryd.prog 97 #[.string s] w fun e w' => e = .returned (.bool (nameB s.data.toList)) ∧ Below w.heap.size w w' := by
  unfold maxLen at hs
  have HL : Hid (s.data.toList.length = s.size) := by show _ = _; simp
  by_cases h0 : 0 < s.size
  · obtain ⟨n1, n2⟩ := str_some h0
    by_cases h12 : s.size ≤ 12
    · have h12' : decide ((12 : Int) < (s.size : Int)) = false := decide_eq_false (by omega)
      obtain ⟨c, hc⟩ : ∃ c : Int, c = ((s[0].toNat : Nat) : Int) := ⟨_, rfl⟩
      by_cases hg : 97 ≤ c ∧ c ≤ 122
      · obtain ⟨g1, g2⟩ := hg
        rw [hc] at g1 g2
        have HOK : Hid (okI 0 ((s.data.toList.getD 0 0).toNat : Int) = true) := by
          show _ = _; rw [byte_at s 0 h0]; unfold okI; simp; omega
        clear hc
        go_enter Tryd.func97, Tryd.ntmps97
        go_wp2
        go_loopg [4] s.size (fun g _ wr => ∃ k : Nat, k ≤ s.size ∧ g = s.size - k ∧ wr = w.iter s k ∧ Hid (okTo s.data.toList k))
        case atStart => exact ⟨0, by omega, rfl, rfl, okTo_zero _⟩
        case round =>
          obtain ⟨k, hk, hg, rfl, hok⟩ := hrel
          have HG := Lib.hid hg
          clear hg
          by_cases hlt : k < s.size
          · by_cases ha : (s[k]'hlt).toNat < 128
            · have hnx := fun ty => run_next_ascii (P := Tryd.prog) w s k ty hlt ha
              by_cases hok2 : okI k ((s[k]'hlt).toNat : Int) = true
              · have HS := Lib.hid (okTo_succ hok.out (by rw [byte_at s k hlt]; exact hok2))
                have hg' : (97 ≤ ((s[k]'hlt).toNat : Int) ∧ ((s[k]'hlt).toNat : Int) ≤ 122) ∨ (((s[k]'hlt).toNat : Int) < 97 ∧ 48 ≤ ((s[k]'hlt).toNat : Int) ∧ ((s[k]'hlt).toNat : Int) ≤ 57) ∨ (((s[k]'hlt).toNat : Int) < 97 ∧ 57 < ((s[k]'hlt).toNat : Int) ∧ (((s[k]'hlt).toNat : Int) != 95) = false) := by
                  unfold okI at hok2; simp at hok2 ⊢; omega
                clear hok2
                rcases hg' with ⟨q1, q2⟩ | ⟨q1, q2, q3⟩ | ⟨q1, q2, q3⟩
                all_goals go_wp2
                all_goals go_roundg (s.size - (k + 1))
                all_goals first | (case measure => have := HG.out; omega) | skip
                all_goals exact ⟨k + 1, by omega, rfl, rfl, HS.out⟩
              · have HE := Lib.hid (nameB_bad (l := s.data.toList) (k := k) (by rw [HL.out]; exact hlt) (by rw [byte_at s k hlt]; simpa using hok2))
                have hk0 : k ≠ 0 := fun e => by subst e; rw [byte_at s 0 h0] at HOK; exact hok2 HOK.out
                have hg' : (((s[k]'hlt).toNat : Int) < 97 ∧ ((s[k]'hlt).toNat : Int) < 48 ∧ (((s[k]'hlt).toNat : Int) != 95) = true) ∨ (((s[k]'hlt).toNat : Int) < 97 ∧ decide (((s[k]'hlt).toNat : Int) < 48) = false ∧ 57 < ((s[k]'hlt).toNat : Int) ∧ (((s[k]'hlt).toNat : Int) != 95) = true) ∨ (decide (((s[k]'hlt).toNat : Int) < 97) = false ∧ 122 < ((s[k]'hlt).toNat : Int) ∧ decide (((s[k]'hlt).toNat : Int) < 48) = false ∧ 57 < ((s[k]'hlt).toNat : Int) ∧ (((s[k]'hlt).toNat : Int) != 95) = true) := by
                  unfold okI at hok2; simp [hk0] at hok2 ⊢; omega
                clear hok2 hk0
                rcases hg' with ⟨q1, q2, q3⟩ | ⟨q1, q2, q3, q4⟩ | ⟨q1, q2, q3, q4, q5⟩
                all_goals go_wp2
                all_goals go_ret
                all_goals exact ⟨ret_bool HE.out.symm, (Below.refl _ _).alloc (Nat.le_refl _) _⟩
            · have hnx := fun ty => run_next_any (P := Tryd.prog) w s k ty hlt
              have hd := (decode_high s k hlt (by omega)).1
              have HE := Lib.hid (nameB_bad (l := s.data.toList) (k := k) (by rw [HL.out]; exact hlt) (by rw [byte_at s k hlt]; unfold okI; simp; omega))
              have q1 : decide (((Utf8.decode s k).1 : Int) < 97) = false := decide_eq_false (by omega)
              have q2 : (122 : Int) < ((Utf8.decode s k).1 : Int) := by omega
              have q3 : decide (((Utf8.decode s k).1 : Int) < 48) = false := decide_eq_false (by omega)
              have q4 : (57 : Int) < ((Utf8.decode s k).1 : Int) := by omega
              have q5 : (((Utf8.decode s k).1 : Int) != 95) = true := by simp; omega
              clear hd
              go_wp2
              go_ret
              exact ⟨ret_bool HE.out.symm, (Below.refl _ _).alloc (Nat.le_refl _) _⟩
          · have hnx := fun ty => run_next_end (P := Tryd.prog) w s k ty hlt
            obtain rfl : k = s.size := by omega
            have HE : Hid (nameB s.data.toList = true) := by
              have := nameB_all (l := s.data.toList) (by rw [HL.out]; exact hok.out)
              show _ = _
              rw [this, HL.out]; simp; omega
            go_wp2
            go_ret
            exact ⟨ret_bool HE.out.symm, (Below.refl _ _).alloc (Nat.le_refl _) _⟩
      · have HE := Lib.hid (nameB_bad (l := s.data.toList) (k := 0) (by rw [HL.out]; exact h0) (by rw [byte_at s 0 h0, ← hc]; unfold okI; simp; omega))
        have hg' : (c < 97) ∨ (decide (c < 97) = false ∧ 122 < c) := by simp only [decide_eq_false_iff_not]; omega
        clear hg
        rcases hg' with q1 | ⟨q1, q2⟩
        all_goals rw [hc] at *
        all_goals clear hc
        all_goals go_enter Tryd.func97, Tryd.ntmps97
        all_goals go_wp2
        all_goals go_ret
        all_goals exact ⟨ret_bool HE.out.symm, Below.refl _ _⟩
    · have h12' : decide ((12 : Int) < (s.size : Int)) = true := decide_eq_true (by omega)
      have HE : Hid (nameB s.data.toList = false) := by show _ = _; unfold nameB; rw [HL.out]; simp; omega
      go_enter Tryd.func97, Tryd.ntmps97
      go_wp2
      go_ret
      exact ⟨ret_bool HE.out.symm, Below.refl _ _⟩
  · obtain ⟨n1, n2⟩ := str_none h0
    have HE : Hid (nameB s.data.toList = false) := by show _ = _; unfold nameB; rw [HL.out]; simp; omega
    go_enter Tryd.func97, Tryd.ntmps97
    go_wp2
    go_ret
    exact ⟨ret_bool HE.out.symm, Below.refl _ _⟩
end Go.Proofs.YticonpjkcocgeaaDoor

set_option linter.unusedVariables false
set_option linter.unusedSimpArgs false
set_option maxRecDepth 100000
namespace Go.Proofs.YticonpjkcocgeaaDoor
open Go.ChangeShapes Go.WideShapes Go.ChangeAt Go.RowKit
open Sg

theorem szTr : (Tryd.prog.info? 35).map (·.size) = some 10 := by kernel_rfl
def rngT (T : Tr) : Tr := ⟨clampV T.id 1 99, T.name, clampV T.len 1 50000, clampV T.speed 1 10000, clampV T.accel 1 200, clampV T.service 1 200, clampV T.emergency T.service 200, clampV T.delay 0 5, clampV T.cons 0 500, clampV T.rate 0 100⟩
section
set_option maxHeartbeats 16000000
theorem ranged_any (T : Tr) (w : World) : Calls Tryd.prog 98 #[.agg #[.int .i64 T.id, .string T.name, .int .i64 T.len, .int .i64 T.speed, .int .i64 T.accel, .int .i64 T.service, .int .i64 T.emergency, .int .i64 T.delay, .int .i64 T.cons, .int .i64 T.rate]] w fun e w' => e = .returned (.agg #[.int .i64 (rngT T).id, .string (rngT T).name, .int .i64 (rngT T).len, .int .i64 (rngT T).speed, .int .i64 (rngT T).accel, .int .i64 (rngT T).service, .int .i64 (rngT T).emergency, .int .i64 (rngT T).delay, .int .i64 (rngT T).cons, .int .i64 (rngT T).rate]) ∧ Below w.heap.size w w' := by
  have HC : Hid (∀ (n lo hi : Int) (w' : World), Calls Tryd.prog 41 #[.int .i64 n, .int .i64 lo, .int .i64 hi] w' fun e w2 => e = .returned (.int .i64 (clampV n lo hi)) ∧ w' = w2) := clamp_any
  go_enter Tryd.func98, Tryd.ntmps98
  go_upto_region 1 with (fail)
  refine wp_tail_after 32 (by kernel_rfl) (by kernel_rfl) ?_
  simp only [List.take_succ_cons, List.take_zero, List.drop_succ_cons, List.drop_zero]
  repeat (first | go_big_quiet_step ((first | (go_at_call 41; exact after_same _ (HC.out _ _ _ _)))))
  refine wpQuiet_nil ?_
  rintro _ ⟨y, rfl⟩
  have OY : Hid (Own y.val (w.heap.size + 1) [.int .i64 0, .string ⟨#[]⟩, .int .i64 0, .int .i64 0, .int .i64 0, .int .i64 0, .int .i64 0, .int .i64 0, .int .i64 0, .int .i64 0]) := (Own.new (by simp)).keep y.is
  refine wp_stN 35 [.int .i64 (rngT T).id, .string (rngT T).name, .int .i64 (rngT T).len, .int .i64 (rngT T).speed, .int .i64 (rngT T).accel, .int .i64 (rngT T).service, .int .i64 (rngT T).emergency, .int .i64 (rngT T).delay, .int .i64 (rngT T).cons, .int .i64 (rngT T).rate] [.int .i64 (rngT T).id, .string (rngT T).name, .int .i64 (rngT T).len, .int .i64 (rngT T).speed, .int .i64 (rngT T).accel, .int .i64 (rngT T).service, .int .i64 (rngT T).emergency, .int .i64 (rngT T).delay, .int .i64 (rngT T).cons, .int .i64 (rngT T).rate] rfl rfl rfl OY.out rfl szTr rfl (by show (0 + 10 : Nat) ≤ 10; decide) rfl ?_
  intro w4 H4
  go_wp2
  exact bodyPost_ret (res_c (by rfl) (by rfl) H4.out.1.cells Tryd.underlying35 szTr) rfl ⟨rfl, eonly (etr (eal (eal (Ext.refl _) _) _) y.is) H4.out.2 (by omega)⟩
def eqT (S T : Tr) : Bool := (S.id == T.id) && (S.name.toList == T.name.toList) && (S.len == T.len) && (S.speed == T.speed) && (S.accel == T.accel) && (S.service == T.service) && (S.emergency == T.emergency) && (S.delay == T.delay) && (S.cons == T.cons) && (S.rate == T.rate)
theorem neq_tr (S T : Tr) (w : World) : (binOp .neq 35 (.agg #[.int .i64 S.id, .string S.name, .int .i64 S.len, .int .i64 S.speed, .int .i64 S.accel, .int .i64 S.service, .int .i64 S.emergency, .int .i64 S.delay, .int .i64 S.cons, .int .i64 S.rate]) (.agg #[.int .i64 T.id, .string T.name, .int .i64 T.len, .int .i64 T.speed, .int .i64 T.accel, .int .i64 T.service, .int .i64 T.emergency, .int .i64 T.delay, .int .i64 T.cons, .int .i64 T.rate])).run Tryd.prog w = .ok (.bool (!(eqT S T))) w := by
  unfold eqT
  cases h0 : (S.id == T.id)
  · simp [go_sem, h0]
  cases h1 : (S.name.toList == T.name.toList)
  · simp [go_sem, h0, h1]
  cases h2 : (S.len == T.len)
  · simp [go_sem, h0, h1, h2]
  cases h3 : (S.speed == T.speed)
  · simp [go_sem, h0, h1, h2, h3]
  cases h4 : (S.accel == T.accel)
  · simp [go_sem, h0, h1, h2, h3, h4]
  cases h5 : (S.service == T.service)
  · simp [go_sem, h0, h1, h2, h3, h4, h5]
  cases h6 : (S.emergency == T.emergency)
  · simp [go_sem, h0, h1, h2, h3, h4, h5, h6]
  cases h7 : (S.delay == T.delay)
  · simp [go_sem, h0, h1, h2, h3, h4, h5, h6, h7]
  cases h8 : (S.cons == T.cons)
  · simp [go_sem, h0, h1, h2, h3, h4, h5, h6, h7, h8]
  cases h9 : (S.rate == T.rate)
  · simp [go_sem, h0, h1, h2, h3, h4, h5, h6, h7, h8, h9]
  simp [go_sem, h0, h1, h2, h3, h4, h5, h6, h7, h8, h9]
theorem eqT_rng (T : Tr) : eqT T (rngT T) = (inB T.id 1 99 && inB T.len 1 50000 && inB T.speed 1 10000 && inB T.accel 1 200 && inB T.service 1 200 && inB T.emergency T.service 200 && inB T.delay 0 5 && inB T.cons 0 500 && inB T.rate 0 100) := by
  rw [Bool.eq_iff_iff]
  simp only [eqT, rngT, inB, clampV, Bool.and_eq_true, decide_eq_true_eq, beq_iff_eq, eq_self, and_true]
  omega
theorem tcheck_any (T : Tr) (w : World) (hs : T.name.size ≤ maxLen) : Calls Tryd.prog 74 #[.agg #[.int .i64 T.id, .string T.name, .int .i64 T.len, .int .i64 T.speed, .int .i64 T.accel, .int .i64 T.service, .int .i64 T.emergency, .int .i64 T.delay, .int .i64 T.cons, .int .i64 T.rate]] w fun e w' => e = .returned (.int .i64 (chkE T)) ∧ Below w.heap.size w w' := by
  have HS := Lib.hid hs
  have HW := fun w' => wname_any T.name w' hs
  have HNM := Lib.hid HW
  clear hs HW
  cases hb : nameB T.name.data.toList
  · have HV : Hid (chkE T = 3) := by show _ = _; unfold chkE; rw [hb]; rfl
    rw [hb] at HNM
    clear hb
    go_enter Tryd.func74, Tryd.ntmps74
    go_wp2_with (go_at_call 97; refine (to_after (HNM.out _)).mono ?_; rintro e w' ⟨y, rfl, rfl⟩)
    go_ret
    exact ⟨ret_int HV.out.symm, etr (eal (Ext.refl _) _) y.is⟩
  · rw [hb] at HNM
    obtain ⟨q, hq⟩ : ∃ q, q = eqT T (rngT T) := ⟨_, rfl⟩
    have hne := fun w => neq_tr T (rngT T) w
    rw [← hq] at hne
    have HV : Hid (chkE T = if q = true then 0 else 1) := by
      show _ = _
      unfold chkE
      rw [hb, hq, eqT_rng]
      rfl
    have HR : Hid (∀ w', Calls Tryd.prog 98 #[.agg #[.int .i64 T.id, .string T.name, .int .i64 T.len, .int .i64 T.speed, .int .i64 T.accel, .int .i64 T.service, .int .i64 T.emergency, .int .i64 T.delay, .int .i64 T.cons, .int .i64 T.rate]] w' fun e w2 => e = .returned (.agg #[.int .i64 (rngT T).id, .string (rngT T).name, .int .i64 (rngT T).len, .int .i64 (rngT T).speed, .int .i64 (rngT T).accel, .int .i64 (rngT T).service, .int .i64 (rngT T).emergency, .int .i64 (rngT T).delay, .int .i64 (rngT T).cons, .int .i64 (rngT T).rate]) ∧ Below w'.heap.size w' w2) := ranged_any T
    generalize hrt : rngT T = S at hne HR
    clear hb hq hrt
    cases q
    all_goals
      go_enter Tryd.func74, Tryd.ntmps74
      go_upto_region 3 with (go_at_call 97; refine (to_after (HNM.out _)).mono ?_; rintro e w' ⟨y, rfl, rfl⟩)
      have y0 : w.heap.size < y.val.heap.size := by have h := y.is.size; simp at h; omega
      refine wp_region_after (by kernel_rfl) (by kernel_rfl) ?_
      repeat (first | go_big_quiet_step ((first | (go_at_call 98; exact after_call _ (HR.out _)))))
      refine wpQuiet_nil ?_
      rintro _ ⟨z, rfl⟩
      go_wp2
      go_ret
      exact ⟨ret_int HV.out.symm, etr (etr (eal (Ext.refl _) _) y.is) z.is⟩
end
end Go.Proofs.YticonpjkcocgeaaDoor

set_option linter.unusedVariables false
set_option linter.unusedSimpArgs false
namespace Go.Proofs.YticonpjkcocgeaaDoor
open Go.ChangeShapes Go.WideShapes Go.ChangeAt Go.RowKit
open Sg
def intOf : Value → Int | .int _ q => q | _ => 0

theorem limited29_any (n lo hi : Int) (w : World) (h : lo ≤ hi) : Calls Tryd.prog 75 #[.int .i64 n, .int .i64 lo, .int .i64 hi] w fun e w' => e = .returned (.int .i64 (clampV n lo hi)) ∧ w = w' := by
  go_enter Tryd.func75, Tryd.ntmps75
  go_wp2
  all_goals go_ret
  all_goals refine ⟨ret_int ?_, rfl⟩
  all_goals unfold clampV
  all_goals omega
theorem eff_any (dec grade : Int) (w : World) : Calls Tryd.prog 13 #[.int .i64 dec, .int .i64 grade] w fun e w' => e = .returned (.int .i64 (effV dec grade)) ∧ w = w' := by
  obtain ⟨h1, h2⟩ := @clampV_le dec 0 200 (by omega)
  obtain ⟨h3, h4⟩ := @clampV_le grade (-1000) 1000 (by omega)
  have hf : -981 ≤ floV (981 * clampV grade (-1000) 1000) 1000 ∧ floV (981 * clampV grade (-1000) 1000) 1000 ≤ 981 := by rw [floV_pos (by omega)]; omega
  obtain ⟨h5, h6⟩ := hf
  have HE := Lib.hid (effV_flo dec grade)
  go_enter Tryd.func13, Tryd.ntmps13
  go_wp2_with (first
    | (go_at_call 41; refine (clamp_any _ _ _ _).mono ?_; rintro e w' ⟨rfl, rfl⟩)
    | (go_at_call 42; refine (floor_any _ _ _ (by omega) (by omega)).mono ?_; rintro e w' ⟨rfl, rfl⟩))
  all_goals go_ret
  all_goals exact ⟨ret_int (by rw [HE.out]; omega), rfl⟩
theorem reff_any (dec grade : Int) (w : World) : Calls Tryd.prog 48 #[.int .i64 dec, .int .i64 grade] w fun e w' => e = .returned (.int .i64 (effV dec grade)) ∧ w = w' := by
  obtain ⟨h1, h2⟩ := @clampV_le dec 0 200 (by omega)
  obtain ⟨h3, h4⟩ := @clampV_le grade (-1000) 1000 (by omega)
  obtain ⟨q, hq⟩ : ∃ q, q = (981 * clampV grade (-1000) 1000).tdiv 1000 := ⟨_, rfl⟩
  obtain ⟨r, hr⟩ : ∃ r, r = (981 * clampV grade (-1000) 1000).tmod 1000 := ⟨_, rfl⟩
  have hqr : 1000 * q + r = 981 * clampV grade (-1000) 1000 := by rw [hq, hr]; exact Int.mul_tdiv_add_tmod _ _
  have hr1 : 0 ≤ 981 * clampV grade (-1000) 1000 → 0 ≤ r ∧ r < 1000 := fun h => by rw [hr]; exact ⟨Int.tmod_nonneg _ h, Int.tmod_lt_of_pos _ (by omega)⟩
  have hr2 : 981 * clampV grade (-1000) 1000 < 0 → r ≤ 0 ∧ -1000 < r := fun h => by
    have e : r = - (-(981 * clampV grade (-1000) 1000)).tmod 1000 := by rw [hr, Int.neg_tmod]; omega
    have := Int.tmod_nonneg 1000 (show 0 ≤ -(981 * clampV grade (-1000) 1000) by omega)
    have := Int.tmod_lt_of_pos (-(981 * clampV grade (-1000) 1000)) (show (0:Int) < 1000 by omega)
    omega
  have HE : Hid (effV dec grade = max (clampV dec 0 200 + (981 * clampV grade (-1000) 1000) / 1000) 0) := rfl
  have hb1 : -982 ≤ (981 * clampV grade (-1000) 1000).tdiv 1000 := by rw [← hq]; omega
  have hb2 : (981 * clampV grade (-1000) 1000).tdiv 1000 ≤ 982 := by rw [← hq]; omega
  by_cases hz : r = 0
  · have hz' : ((981 * clampV grade (-1000) 1000).tmod 1000 != 0) = false := by rw [← hr, hz]; rfl
    have HQ : Hid (q = 981 * clampV grade (-1000) 1000 / 1000 ∧ q = (981 * clampV grade (-1000) 1000).tdiv 1000) := ⟨by omega, hq⟩
    clear hq hr hz
    go_enter Tryd.func48, Tryd.ntmps48
    go_wp2_with (first
      | (go_at_call 75; refine (limited29_any _ _ _ _ (by omega)).mono ?_; rintro e w' ⟨rfl, rfl⟩))
    all_goals go_ret
    all_goals exact ⟨ret_int (by have := HQ.out; rw [HE.out]; omega), rfl⟩
  · have hz' : ((981 * clampV grade (-1000) 1000).tmod 1000 != 0) = true := by rw [← hr]; simpa using hz
    have HQ : Hid (q = (981 * clampV grade (-1000) 1000).tdiv 1000 ∧ (981 * clampV grade (-1000) 1000 < 0 → q - 1 = 981 * clampV grade (-1000) 1000 / 1000) ∧ (0 ≤ 981 * clampV grade (-1000) 1000 → q = 981 * clampV grade (-1000) 1000 / 1000)) := ⟨hq, by omega, by omega⟩
    clear hq hr hz
    go_enter Tryd.func48, Tryd.ntmps48
    go_wp2_with (first
      | (go_at_call 75; refine (limited29_any _ _ _ _ (by omega)).mono ?_; rintro e w' ⟨rfl, rfl⟩))
    all_goals go_ret
    all_goals exact ⟨ret_int (by have := HQ.out; rw [HE.out]; omega), rfl⟩
theorem bounds_any (v delay : Int) (w : World) : Calls Tryd.prog 43 #[.int .i64 v, .int .i64 delay] w fun e w' => e = .returned (.tuple #[.int .i64 (stV v), .int .i64 (wtV delay)]) ∧ w = w' := by
  go_enter Tryd.func43, Tryd.ntmps43
  go_wp2_with (go_at_call 41; refine (clamp_any _ _ _ _).mono ?_; rintro e w' ⟨rfl, rfl⟩)
  all_goals go_ret2
  all_goals exact ⟨ret_int2 (by unfold stV; omega) rfl, rfl⟩
theorem dist_any (v dec delay : Int) (hd2 : dec ≤ 9223372036854775807) (w : World) : Calls Tryd.prog 16 #[.int .i64 v, .int .i64 dec, .int .i64 delay] w fun e w' => e = .returned (.int .i64 (dstV v dec delay)) ∧ w = w' := by
  by_cases hv : v ≤ 0
  · have HE : Hid (dstV v dec delay = 0) := by show _ = _; rw [dstV, if_pos hv]
    go_enter Tryd.func16, Tryd.ntmps16
    go_wp2
    go_ret
    exact ⟨ret_int HE.out.symm, rfl⟩
  by_cases hd : dec < 1
  · have HE : Hid (dstV v dec delay = 1073741824) := by show _ = _; rw [dstV, if_neg hv, if_pos hd]
    go_enter Tryd.func16, Tryd.ntmps16
    go_wp2
    go_ret
    exact ⟨ret_int HE.out.symm, rfl⟩
  have HE := Lib.hid (dstV_pos (delay := delay) (show 0 < v by omega) (show 1 ≤ dec by omega))
  obtain ⟨s1, s2⟩ := @stV_bd v (by omega)
  obtain ⟨w1, w2⟩ := wtV_bd delay
  obtain ⟨p1, p2⟩ := @wt_part v delay (by omega)
  obtain ⟨p3, p4⟩ := @dst_part v dec (by omega) (by omega)
  obtain ⟨n1, n2⟩ := @nV_bd v dec (by omega) (by omega)
  have m1 : 0 ≤ nV v dec * stV v := Int.mul_nonneg (by omega) (by omega)
  have m2 : nV v dec * stV v ≤ 20000 * 20000 := Int.mul_le_mul (by omega) (by omega) (by omega) (by omega)
  have m3 : 0 ≤ nV v dec * (nV v dec + 1) := Int.mul_nonneg (by omega) (by omega)
  have m4 : nV v dec * (nV v dec + 1) ≤ 20000 * 20000 := Int.mul_le_mul (by omega) (by omega) (by omega) (by omega)
  have m5 : 0 ≤ dec * triV (nV v dec) := Int.mul_nonneg (by omega) (triV_nonneg n1)
  have hn : (stV v - 1) / dec = nV v dec := rfl
  have ht : nV v dec * (nV v dec + 1) / 2 = triV (nV v dec) := rfl
  go_enter Tryd.func16, Tryd.ntmps16
  go_wp2_with (go_at_call 43; refine (bounds_any _ _ _).mono ?_; rintro e w' ⟨rfl, rfl⟩)
  go_ret
  exact ⟨ret_int HE.out.symm, rfl⟩
theorem time_any (v dec delay : Int) (hd2 : dec ≤ 9223372036854775807) (w : World) : Calls Tryd.prog 15 #[.int .i64 v, .int .i64 dec, .int .i64 delay] w fun e w' => e = .returned (.int .i64 (timV v dec delay)) ∧ w = w' := by
  by_cases hv : v ≤ 0
  · have HE : Hid (timV v dec delay = 0) := by show _ = _; rw [timV, if_pos hv]
    go_enter Tryd.func15, Tryd.ntmps15
    go_wp2
    go_step3
    go_wp2
    try rw [Exit.noGoto_ret]
    go_ret
    exact ⟨ret_int HE.out.symm, rfl⟩
  by_cases hd : dec < 1
  · have HE : Hid (timV v dec delay = 1073741824) := by show _ = _; rw [timV, if_neg hv, if_pos hd]
    go_enter Tryd.func15, Tryd.ntmps15
    go_wp2
    go_step3
    go_wp2
    try rw [Exit.noGoto_ret]
    go_ret
    exact ⟨ret_int HE.out.symm, rfl⟩
  have HE := Lib.hid (timV_pos (delay := delay) (show 0 < v by omega) (show 1 ≤ dec by omega))
  obtain ⟨s1, s2⟩ := @stV_bd v (by omega)
  obtain ⟨w1, w2⟩ := wtV_bd delay
  obtain ⟨n1, n2⟩ := @nV_bd v dec (by omega) (by omega)
  have step : ∀ k : Nat, (k : Int) ≤ nV v dec → stV v - (k + 1) * dec ≤ 20000 ∧ -9223372036854775807 ≤ stV v - (k + 1) * dec ∧ 0 ≤ k * dec ∧ k * dec ≤ 20000 ∧ (stV v - (k + 1) * dec ≤ 0 ↔ nV v dec = k) := fun k hk => by
    have hl := @nV_lt v dec (k + 1) (by omega)
    have hkd : 0 ≤ k * dec := Int.mul_nonneg (by omega) (by omega)
    have hkm : (k : Int) * dec ≤ nV v dec * dec := Int.mul_le_mul_of_nonneg_right hk (by omega)
    have hnm := (@nV_mul v dec (by omega)).1
    rw [Int.add_mul] at *
    omega
  have ST := Lib.hid step
  clear step
  go_enter Tryd.func15, Tryd.ntmps15
  go_wp2
  refine wp_scope_jumps 0 (fun a' w' => w' = w ∧ ∃ (k : Nat) (x c : Int) (u2 u3 u4 u5 u6 u8 u9 u10 u11 u12 u13 u14 u15 u16 u17 u18 u19 u20 u21 u22 u23 u24 u25 : Value), a' = { tmps := #[.int .i64 x, .int .i64 dec, u2, u3, u4, u5, u6, .int .i64 c, u8, u9, u10, u11, u12, u13, u14, u15, u16, u17, u18, u19, u20, u21, u22, u23, u24, u25], defers := [] } ∧ (k : Int) ≤ nV v dec ∧ Hid (x = stV v - k * dec) ∧ c = wtV delay + k) (fun a' _ => (30000 - intOf (a'.tmps.getD 7 undef)).toNat) rfl ?_ ?_
  · by_cases h0 : stV v - dec ≤ 0
    · have HN : Hid (nV v dec = 0) := by
        have := ST.out 0 (by omega)
        exact this.2.2.2.2.1 (by simp; omega)
      go_wp2_with (go_at_call 43; refine (bounds_any _ _ _).mono ?_; rintro e w' ⟨rfl, rfl⟩)
      go_step3
      go_wp2
      simp only [Exit.jump]
      go_ret
      exact ⟨ret_int (by rw [HE.out, HN.out]; omega), rfl⟩
    · have HN : Hid (1 ≤ nV v dec) := by
        have := ST.out 0 (by omega)
        have h2 := this.2.2.2.2.2
        show 1 ≤ nV v dec
        simp at h2
        omega
      go_wp2_with (go_at_call 43; refine (bounds_any _ _ _).mono ?_; rintro e w' ⟨rfl, rfl⟩)
      go_step3
      go_wp2
      go_step3
      exact ⟨rfl, rfl, 1, _, _, _, _, _, _, _, _, _, _, _, _, _, _, _, _, _, _, _, _, _, _, _, _, _, rfl, HN.out, (by show _ = _; omega), rfl⟩
  · rintro a' w' ⟨rfl, k, x, c, u2, u3, u4, u5, u6, u8, u9, u10, u11, u12, u13, u14, u15, u16, u17, u18, u19, u20, u21, u22, u23, u24, u25, rfl, hk, hx, hc⟩
    obtain ⟨t1, t2, t3, t4, t5⟩ := ST.out k hk
    have ex : x - dec = stV v - (k + 1) * dec := by rw [hx.out, Int.add_mul]; omega
    have EX := Lib.hid ex
    have hx1 : x - dec ≤ 20000 := by omega
    have hx2 : -9223372036854775807 ≤ x - dec := by omega
    have HC := Lib.hid hc
    have hc1 : 0 ≤ c := by omega
    have hc2 : c ≤ 20010 := by omega
    by_cases h0 : x - dec ≤ 0
    · have HN : Hid (nV v dec = k) := t5.1 (by omega)
      clear t1 t2 t3 t4 t5 ex hc
      go_wp2
      simp only [Exit.jump]
      go_ret
      exact ⟨ret_int (by rw [HE.out, HN.out, HC.out]), rfl⟩
    · have HN : Hid ((k : Int) + 1 ≤ nV v dec) := by show _ ≤ _; omega
      clear t1 t2 t3 t4 t5 ex hc
      go_wp2
      go_step3
      refine ⟨rfl, ⟨rfl, k + 1, x - dec, c + 1, _, _, _, _, _, _, _, _, _, _, _, _, _, _, _, _, _, _, _, _, _, _, _, rfl, HN.out, ?_, ?_⟩, ?_⟩
      · show _ = _
        rw [EX.out]; rfl
      · have := HC.out; omega
      · have := HC.out
        have := HN.out
        simp [intOf]
        omega
end Go.Proofs.YticonpjkcocgeaaDoor
