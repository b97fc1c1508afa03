/- Walk of words.Name. -/
import Derived.Test.YtcodpbiefidmkaaAfter
import Derived.Test.YtcodpbiefidmkaaPTrain
import Derived.Laws.RangeAny
import Derived.Laws.Strings
import Derived.Deep.LoopGhost
set_option linter.unusedVariables false
set_option linter.unusedSimpArgs false
namespace Go.Proofs.Ytcodpbiefidmkaa
open Go.ChangeShapes Go.WideShapes Go.ChangeAt Go.RowKit
open Sg

theorem byte_at (s : ByteArray) (k : Nat) (h : k < s.size) : s.data.toList.getD k 0 = s[k] := by
  rw [List.getD_eq_getElem?_getD, List.getElem?_eq_getElem (by simpa using h)]; rfl
theorem str_some {s : ByteArray} (h : 0 < s.size) : s.toList.isEmpty = false ∧ ¬ s.toList = [] := by
  have e := ByteArray.toList_eq s
  have : s.data.toList.length = s.size := by simp
  have h2 : ¬ s.toList = [] := by rw [e]; intro h0; rw [h0] at this; simp at this; omega
  exact ⟨by cases hh : s.toList with | nil => exact absurd hh h2 | cons _ _ => rfl, h2⟩
theorem str_none {s : ByteArray} (h : ¬ 0 < s.size) : s.toList.isEmpty = true ∧ s.toList = [] := by
  have e := ByteArray.toList_eq s
  have h3 : s.data.toList.length = s.size := by simp
  have h2 : s.toList = [] := by rw [e]; exact List.eq_nil_of_length_eq_zero (by omega)
  exact ⟨by rw [h2]; rfl, h2⟩
set_option maxHeartbeats 4000000 in
theorem wname_any (s : ByteArray) (w : World) (hs : s.size ≤ maxLen) : Calls Try.prog 18 #[.string s] w fun e w' => e = .returned (.bool (nameB s.data.toList)) ∧ Below w.heap.size w w' := by
  unfold maxLen at hs
  have HL : Hid (s.data.toList.length = s.size) := by show _ = _; simp
  by_cases h0 : 0 < s.size
  · obtain ⟨n1, n2⟩ := str_some h0
    by_cases h12 : s.size ≤ 12
    · have h12' : decide ((12 : Int) < (s.size : Int)) = false := decide_eq_false (by omega)
      obtain ⟨c, hc⟩ : ∃ c : Int, c = ((s[0].toNat : Nat) : Int) := ⟨_, rfl⟩
      by_cases hg : 97 ≤ c ∧ c ≤ 122
      · obtain ⟨g1, g2⟩ := hg
        rw [hc] at g1 g2
        have HOK : Hid (okI 0 ((s.data.toList.getD 0 0).toNat : Int) = true) := by
          show _ = _; rw [byte_at s 0 h0]; unfold okI; simp; omega
        clear hc
        go_enter Try.func18, Try.ntmps18
        go_wp2
        go_loopg [4] s.size (fun g _ wr => ∃ k : Nat, k ≤ s.size ∧ g = s.size - k ∧ wr = w.iter s k ∧ Hid (okTo s.data.toList k))
        case atStart => exact ⟨0, by omega, rfl, rfl, okTo_zero _⟩
        case round =>
          obtain ⟨k, hk, hg, rfl, hok⟩ := hrel
          have HG := Lib.hid hg
          clear hg
          by_cases hlt : k < s.size
          · by_cases ha : (s[k]'hlt).toNat < 128
            · have hnx := fun ty => run_next_ascii (P := Try.prog) w s k ty hlt ha
              by_cases hok2 : okI k ((s[k]'hlt).toNat : Int) = true
              · have HS := Lib.hid (okTo_succ hok.out (by rw [byte_at s k hlt]; exact hok2))
                have hg' : (97 ≤ ((s[k]'hlt).toNat : Int) ∧ ((s[k]'hlt).toNat : Int) ≤ 122) ∨ (((s[k]'hlt).toNat : Int) < 97 ∧ 48 ≤ ((s[k]'hlt).toNat : Int) ∧ ((s[k]'hlt).toNat : Int) ≤ 57) ∨ (((s[k]'hlt).toNat : Int) < 97 ∧ 57 < ((s[k]'hlt).toNat : Int) ∧ (((s[k]'hlt).toNat : Int) != 95) = false) := by
                  unfold okI at hok2; simp at hok2 ⊢; omega
                clear hok2
                rcases hg' with ⟨q1, q2⟩ | ⟨q1, q2, q3⟩ | ⟨q1, q2, q3⟩
                all_goals go_wp2
                all_goals go_roundg (s.size - (k + 1))
                all_goals first | (case measure => have := HG.out; omega) | skip
                all_goals exact ⟨k + 1, by omega, rfl, rfl, HS.out⟩
              · have HE := Lib.hid (nameB_bad (l := s.data.toList) (k := k) (by rw [HL.out]; exact hlt) (by rw [byte_at s k hlt]; simpa using hok2))
                have hk0 : k ≠ 0 := fun e => by subst e; rw [byte_at s 0 h0] at HOK; exact hok2 HOK.out
                have hg' : (((s[k]'hlt).toNat : Int) < 97 ∧ ((s[k]'hlt).toNat : Int) < 48 ∧ (((s[k]'hlt).toNat : Int) != 95) = true) ∨ (((s[k]'hlt).toNat : Int) < 97 ∧ decide (((s[k]'hlt).toNat : Int) < 48) = false ∧ 57 < ((s[k]'hlt).toNat : Int) ∧ (((s[k]'hlt).toNat : Int) != 95) = true) ∨ (decide (((s[k]'hlt).toNat : Int) < 97) = false ∧ 122 < ((s[k]'hlt).toNat : Int) ∧ decide (((s[k]'hlt).toNat : Int) < 48) = false ∧ 57 < ((s[k]'hlt).toNat : Int) ∧ (((s[k]'hlt).toNat : Int) != 95) = true) := by
                  unfold okI at hok2; simp [hk0] at hok2 ⊢; omega
                clear hok2 hk0
                rcases hg' with ⟨q1, q2, q3⟩ | ⟨q1, q2, q3, q4⟩ | ⟨q1, q2, q3, q4, q5⟩
                all_goals go_wp2
                all_goals go_ret
                all_goals exact ⟨ret_bool HE.out.symm, (Below.refl _ _).alloc (Nat.le_refl _) _⟩
            · have hnx := fun ty => run_next_any (P := Try.prog) w s k ty hlt
              have hd := (decode_high s k hlt (by omega)).1
              have HE := Lib.hid (nameB_bad (l := s.data.toList) (k := k) (by rw [HL.out]; exact hlt) (by rw [byte_at s k hlt]; unfold okI; simp; omega))
              have q1 : decide (((Utf8.decode s k).1 : Int) < 97) = false := decide_eq_false (by omega)
              have q2 : (122 : Int) < ((Utf8.decode s k).1 : Int) := by omega
              have q3 : decide (((Utf8.decode s k).1 : Int) < 48) = false := decide_eq_false (by omega)
              have q4 : (57 : Int) < ((Utf8.decode s k).1 : Int) := by omega
              have q5 : (((Utf8.decode s k).1 : Int) != 95) = true := by simp; omega
              clear hd
              go_wp2
              go_ret
              exact ⟨ret_bool HE.out.symm, (Below.refl _ _).alloc (Nat.le_refl _) _⟩
          · have hnx := fun ty => run_next_end (P := Try.prog) w s k ty hlt
            obtain rfl : k = s.size := by omega
            have HE : Hid (nameB s.data.toList = true) := by
              have := nameB_all (l := s.data.toList) (by rw [HL.out]; exact hok.out)
              show _ = _
              rw [this, HL.out]; simp; omega
            go_wp2
            go_ret
            exact ⟨ret_bool HE.out.symm, (Below.refl _ _).alloc (Nat.le_refl _) _⟩
      · have HE := Lib.hid (nameB_bad (l := s.data.toList) (k := 0) (by rw [HL.out]; exact h0) (by rw [byte_at s 0 h0, ← hc]; unfold okI; simp; omega))
        have hg' : (c < 97) ∨ (decide (c < 97) = false ∧ 122 < c) := by simp only [decide_eq_false_iff_not]; omega
        clear hg
        rcases hg' with q1 | ⟨q1, q2⟩
        all_goals rw [hc] at *
        all_goals clear hc
        all_goals go_enter Try.func18, Try.ntmps18
        all_goals go_wp2
        all_goals go_ret
        all_goals exact ⟨ret_bool HE.out.symm, Below.refl _ _⟩
    · have h12' : decide ((12 : Int) < (s.size : Int)) = true := decide_eq_true (by omega)
      have HE : Hid (nameB s.data.toList = false) := by show _ = _; unfold nameB; rw [HL.out]; simp; omega
      go_enter Try.func18, Try.ntmps18
      go_wp2
      go_ret
      exact ⟨ret_bool HE.out.symm, Below.refl _ _⟩
  · obtain ⟨n1, n2⟩ := str_none h0
    have HE : Hid (nameB s.data.toList = false) := by show _ = _; unfold nameB; rw [HL.out]; simp; omega
    go_enter Try.func18, Try.ntmps18
    go_wp2
    go_ret
    exact ⟨ret_bool HE.out.symm, Below.refl _ _⟩
end Go.Proofs.Ytcodpbiefidmkaa
