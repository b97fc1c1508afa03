/- Walks of package train and of its reference: what each function returns. -/
import Derived.Test.YtbgmknkmfhpgeaaDoorWNum
import Derived.Test.YtbgmknkmfhpgeaaDoorPAll
set_option linter.unusedVariables false
set_option linter.unusedSimpArgs false
namespace Go.Proofs.YtbgmknkmfhpgeaaDoor
open Go.ChangeShapes Go.WideShapes Go.ChangeAt Go.RowKit
open Sg

theorem getD_byte (s : ByteArray) (k : Nat) (h : k < s.size) : s.data.toList.getD k 0 = s[k] := by
  rw [List.getD_eq_getElem?_getD, List.getElem?_eq_getElem (by simpa using h)]; rfl
theorem rname_any (s : ByteArray) (w : World) (hs : s.size ≤ maxLen) : Calls Tryd.prog 45 #[.string s] w fun e w' => e = .returned (.bool (nameB s.data.toList)) ∧ w = w' := by
  unfold maxLen at hs
  have hl : s.data.toList.length = s.size := by simp
  have HL := Lib.hid hl
  clear hl
  go_enter Tryd.func45, Tryd.ntmps45
  go_wp2
  go_loopg [3] s.size (fun g i wr => ∃ k : Nat, wr = w ∧ k ≤ s.size ∧ g = s.size - k ∧ i = .int .i64 k ∧ Hid (okTo s.data.toList k))
  case atStart => exact ⟨0, rfl, by omega, rfl, rfl, okTo_zero _⟩
  case round =>
    obtain ⟨k, rfl, hk, hg, rfl, hok⟩ := hrel
    have HG := Lib.hid hg
    clear hg
    by_cases hlt : k < s.size
    · obtain ⟨c, hc⟩ : ∃ c : Int, c = ((s[k].toNat : Nat) : Int) := ⟨_, rfl⟩
      have HC := Lib.hid hc
      by_cases hg : okI k c = true
      · have HS := Lib.hid (okTo_succ hok.out (by rw [getD_byte s k hlt, ← hc]; exact hg))
        have hg' : (97 ≤ c ∧ c ≤ 122) ∨ (c < 97 ∧ 48 ≤ c ∧ c ≤ 57 ∧ ((k : Int) == 0) = false) ∨ (c < 97 ∧ 57 < c ∧ (c == 95) = true ∧ ((k : Int) == 0) = false) := by
          unfold okI at hg; simp at hg ⊢; omega
        clear hg
        rcases hg' with ⟨h1, h2⟩ | ⟨h1, h2, h3, h4⟩ | ⟨h1, h2, h3, h4⟩
        all_goals rw [hc] at *
        all_goals clear hc
        all_goals go_wp2
        all_goals go_roundg (s.size - (k + 1))
        all_goals first | (case measure => have := HG.out; omega) | skip
        all_goals exact ⟨k + 1, rfl, by omega, rfl, by go_num, HS.out⟩
      · have HE := Lib.hid (nameB_bad (l := s.data.toList) (k := k) (by rw [HL.out]; exact hlt) (by rw [getD_byte s k hlt, ← hc]; simpa using hg))
        have hg' : (c < 48 ∧ (c == 95) = false) ∨ (57 < c ∧ c < 97 ∧ (c == 95) = false) ∨ (c < 97 ∧ 48 ≤ c ∧ c ≤ 57 ∧ ((k : Int) == 0) = true) ∨ (c < 97 ∧ 57 < c ∧ (c == 95) = true ∧ ((k : Int) == 0) = true) ∨ (122 < c ∧ decide (c ≤ 122) = false ∧ (c == 95) = false) := by
          unfold okI at hg; simp at hg ⊢; omega
        clear hg
        rcases hg' with ⟨h1, h2⟩ | ⟨h1, h2, h3⟩ | ⟨h1, h2, h3, h4⟩ | ⟨h1, h2, h3, h4⟩ | ⟨h1, h2, h3⟩
        all_goals rw [hc] at *
        all_goals clear hc
        all_goals go_wp2
        all_goals go_ret
        all_goals exact ⟨ret_bool HE.out.symm, rfl⟩
    · obtain rfl : k = s.size := by omega
      have HE : Hid (nameB s.data.toList = (decide (1 ≤ s.size) && decide (s.size ≤ 12))) := by
        have := nameB_all (l := s.data.toList) (by rw [HL.out]; exact hok.out)
        rwa [HL.out] at this
      by_cases h1 : (1 : Int) ≤ s.size
      · by_cases h2 : (s.size : Int) ≤ 12
        all_goals go_wp2
        all_goals go_ret
        all_goals exact ⟨ret_bool (by rw [HE.out, Bool.eq_iff_iff]; simp; omega), rfl⟩
      · go_wp2
        go_ret
        exact ⟨ret_bool (by rw [HE.out, Bool.eq_iff_iff]; simp; omega), rfl⟩
theorem in_any (n lo hi : Int) (w : World) : Calls Tryd.prog 46 #[.int .i64 n, .int .i64 lo, .int .i64 hi] w fun e w' => e = .returned (.bool (inB n lo hi)) ∧ w = w' := by
  by_cases h1 : lo ≤ n
  · have HE : Hid (inB n lo hi = decide (n ≤ hi)) := by show _ = _; simp [inB, h1]
    go_enter Tryd.func46, Tryd.ntmps46
    go_wp2
    go_ret
    exact ⟨ret_bool HE.out.symm, rfl⟩
  · have h1' : decide (lo ≤ n) = false := by simpa using h1
    have HE : Hid (inB n lo hi = false) := by show _ = _; simp [inB, h1']
    go_enter Tryd.func46, Tryd.ntmps46
    go_wp2
    go_ret
    exact ⟨ret_bool HE.out.symm, rfl⟩
set_option maxHeartbeats 1000000 in
theorem rcheck_any (T : Tr) (w : World) (hs : T.name.size ≤ maxLen) : Calls Tryd.prog 17 #[.agg #[.int .i64 T.id, .string T.name, .int .i64 T.len, .int .i64 T.speed, .int .i64 T.accel, .int .i64 T.service, .int .i64 T.emergency, .int .i64 T.delay, .int .i64 T.cons, .int .i64 T.rate]] w fun e w' => e = .returned (.int .i64 (chkE T)) ∧ Below w.heap.size w w' := by
  have HE : Hid (chkE T = _) := chkE.eq_def T
  obtain ⟨b, hb⟩ : ∃ b, nameB T.name.data.toList = b := ⟨_, rfl⟩
  have HB := Lib.hid hb
  cases b
  all_goals go_enter Tryd.func17, Tryd.ntmps17
  all_goals go_wp2_with (first
    | (go_at_call 45; refine (rname_any _ _ hs).mono ?_; rintro e w' ⟨rfl, rfl⟩)
    | (go_at_call 46; refine (in_any _ _ _ _).mono ?_; rintro e w' ⟨rfl, rfl⟩))
  all_goals go_ret
  all_goals refine ⟨ret_int ?_, (Below.refl _ _).alloc (Nat.le_refl _) _⟩
  all_goals rw [HE.out]
  all_goals clear HE
  all_goals rw [HB.out]
  all_goals try simp only [Bool.not_eq_true', Bool.not_eq_false'] at *
  all_goals simp [*]
theorem rerr_any (T : Tr) (m : Int) (w : World) (hc : 0 ≤ T.cons ∧ T.cons ≤ 500) (hr : 0 ≤ T.rate ∧ T.rate ≤ 100) : Calls Tryd.prog 89 #[.agg #[.int .i64 T.id, .string T.name, .int .i64 T.len, .int .i64 T.speed, .int .i64 T.accel, .int .i64 T.service, .int .i64 T.emergency, .int .i64 T.delay, .int .i64 T.cons, .int .i64 T.rate], .int .i64 m] w fun e w' => e = .returned (.int .i64 (errV T.cons T.rate m)) ∧ Below w.heap.size w w' := by
  by_cases h : m ≤ 0
  · have HE : Hid (errV T.cons T.rate m = 0) := by show _ = _; rw [errV, if_pos h]
    go_enter Tryd.func89, Tryd.ntmps89
    go_wp2
    go_ret
    exact ⟨ret_int HE.out.symm, (Below.refl _ _).alloc (Nat.le_refl _) _⟩
  obtain ⟨x, hx, hx1, hx2⟩ : ∃ x, min m 1073741824 = x ∧ 0 < x ∧ x ≤ 1073741824 := ⟨_, rfl, by omega, by omega⟩
  have HE := Lib.hid (errV_pos (c := T.cons) (r := T.rate) (show 0 < m by omega))
  rw [hx] at HE
  obtain ⟨b1, b2⟩ := @mul_bd x T.rate (by omega) (by omega) hr
  obtain ⟨hc1, hc2⟩ := hc
  clear hr
  have h' : 0 < m := by omega
  clear h
  by_cases hm : m ≤ 1073741824
  · obtain rfl : x = m := by omega
    clear hx
    go_enter Tryd.func89, Tryd.ntmps89
    go_wp2
    go_ret
    exact ⟨ret_int HE.out.symm, (Below.refl _ _).alloc (Nat.le_refl _) _⟩
  · obtain rfl : x = 1073741824 := by omega
    clear hx
    go_enter Tryd.func89, Tryd.ntmps89
    go_wp2
    go_ret
    exact ⟨ret_int HE.out.symm, (Below.refl _ _).alloc (Nat.le_refl _) _⟩
theorem terr_any (T : Tr) (m : Int) (w : World) (hc : 0 ≤ T.cons ∧ T.cons ≤ 500) (hr : 0 ≤ T.rate ∧ T.rate ≤ 100) : Calls Tryd.prog 85 #[.agg #[.int .i64 T.id, .string T.name, .int .i64 T.len, .int .i64 T.speed, .int .i64 T.accel, .int .i64 T.service, .int .i64 T.emergency, .int .i64 T.delay, .int .i64 T.cons, .int .i64 T.rate], .int .i64 m] w fun e w' => e = .returned (.int .i64 (errV T.cons T.rate m)) ∧ Below w.heap.size w w' := by
  by_cases h : m ≤ 0
  · have HE : Hid (errV T.cons T.rate m = 0) := by show _ = _; rw [errV, if_pos h]
    go_enter Tryd.func85, Tryd.ntmps85
    go_wp2
    go_ret
    exact ⟨ret_int HE.out.symm, (Below.refl _ _).alloc (Nat.le_refl _) _⟩
  obtain ⟨x, hx, hx1, hx2⟩ : ∃ x, min m 1073741824 = x ∧ 0 < x ∧ x ≤ 1073741824 := ⟨_, rfl, by omega, by omega⟩
  have HE := Lib.hid (errV_pos (c := T.cons) (r := T.rate) (show 0 < m by omega))
  rw [hx] at HE
  obtain ⟨b1, b2⟩ := @mul_bd x T.rate (by omega) (by omega) hr
  obtain ⟨hc1, hc2⟩ := hc
  clear hr
  have HF := Lib.hid (floV_pos (a := x * T.rate) (b := 1000) (by omega))
  obtain ⟨q, hq⟩ : ∃ q, q = floV (x * T.rate) 1000 := ⟨_, rfl⟩
  have q1 : 0 ≤ q := by rw [hq, HF.out]; omega
  have q2 : q ≤ 107374182 := by rw [hq, HF.out]; omega
  have HQ := Lib.hid hq
  clear hq
  have h' : 0 < m := by omega
  clear h
  by_cases hm : m ≤ 1073741824
  · obtain rfl : x = m := by omega
    clear hx
    go_enter Tryd.func85, Tryd.ntmps85
    go_wp2_with (go_at_call 117; refine (floor_any _ _ _ (by omega) (by omega)).mono ?_; rintro e w' ⟨rfl, rfl⟩; rw [← HQ.out])
    go_ret
    exact ⟨ret_int (by rw [HE.out, HQ.out, HF.out]), (Below.refl _ _).alloc (Nat.le_refl _) _⟩
  · obtain rfl : x = 1073741824 := by omega
    clear hx
    go_enter Tryd.func85, Tryd.ntmps85
    go_wp2_with (go_at_call 117; refine (floor_any _ _ _ (by omega) (by omega)).mono ?_; rintro e w' ⟨rfl, rfl⟩; rw [← HQ.out])
    go_ret
    exact ⟨ret_int (by rw [HE.out, HQ.out, HF.out]), (Below.refl _ _).alloc (Nat.le_refl _) _⟩
end Go.Proofs.YtbgmknkmfhpgeaaDoor
