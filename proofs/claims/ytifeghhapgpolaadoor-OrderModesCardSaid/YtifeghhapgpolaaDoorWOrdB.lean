/- Walks of the library's sort of orders, and of the reference's put. -/
import Derived.Test.YtifeghhapgpolaaDoorWOrdA
import Derived.Shelf.SlSortCmp.InsertionK
set_option linter.unusedVariables false
set_option linter.unusedSimpArgs false
namespace Go.Proofs.YtifeghhapgpolaaDoor
open Go.ChangeShapes Go.WideShapes Go.ChangeAt Go.RowKit
open Sg

theorem compare_any (x y : Int) (w : World) : Calls Tryd.prog 16 #[.int .i64 x, .int .i64 y] w fun e w' => e = .returned (.int .i64 (Lib.compareInt x y)) ∧ w = w' := by
  have n1 : (x != x) = false := by simp
  have n2 : (y != y) = false := by simp
  by_cases h1 : x < y
  · have HE : Hid (Lib.compareInt x y = -1) := by show _ = _; unfold Lib.compareInt; rw [if_pos h1]
    go_enter Tryd.func16, Tryd.ntmps16
    go_wp2
    go_ret
    exact ⟨ret_int HE.out.symm, rfl⟩
  by_cases h2 : y < x
  · have HE : Hid (Lib.compareInt x y = 1) := by show _ = _; unfold Lib.compareInt; rw [if_neg h1, if_pos h2]
    go_enter Tryd.func16, Tryd.ntmps16
    go_wp2
    go_ret
    exact ⟨ret_int HE.out.symm, rfl⟩
  · have HE : Hid (Lib.compareInt x y = 0) := by show _ = _; unfold Lib.compareInt; rw [if_neg h1, if_neg h2]
    go_enter Tryd.func16, Tryd.ntmps16
    go_wp2
    go_ret
    exact ⟨ret_int HE.out.symm, rfl⟩
def orV : List Int → Int
  | [] => 0
  | x :: r => if x = 0 then orV r else x
theorem orV_at : ∀ {l : List Int} {k : Nat} {x : Int}, l[k]? = some x → x ≠ 0 → (∀ (i : Nat) y, i < k → l[i]? = some y → y = 0) → orV l = x
  | [], _, _, h, _, _ => by simp at h
  | y :: ys, 0, x, h, h0, _ => by simp at h; subst h; simp [orV, h0]
  | y :: ys, k + 1, x, h, h0, hn => by
    have := hn 0 y (by omega) (by simp)
    subst this
    show (if (0 : Int) = 0 then orV ys else 0) = x
    rw [if_pos rfl]
    exact orV_at (k := k) (by simpa using h) h0 (fun i z hi hz => hn (i + 1) z (by omega) (by simpa using hz))
theorem orV_zero : ∀ {l : List Int}, (∀ (i : Nat) y, l[i]? = some y → y = 0) → orV l = 0
  | [], _ => rfl
  | y :: ys, hn => by
    have := hn 0 y (by simp)
    subst this
    show (if (0 : Int) = 0 then orV ys else 0) = 0
    rw [if_pos rfl]
    exact orV_zero fun i z hz => hn (i + 1) z (by simpa using hz)
set_option maxHeartbeats 2000000 in
theorem or_any (A : Option Addr) (xs : List Int) (c : Nat) (w : World) (hm : xs.length ≤ maxLen) (hr : RdI w A xs) :
    Calls Tryd.prog 15 #[.slice A xs.length c] w fun e w' => e = .returned (.int .i64 (orV xs)) ∧ w = w' := by
  unfold maxLen at hm
  have HR := Lib.hid hr
  clear hr
  go_enter Tryd.func15, Tryd.ntmps15
  go_wp2
  go_loopg [8] xs.length (fun g i wr => ∃ j : Nat, i = .int .i64 j ∧ j ≤ xs.length ∧ g = xs.length - j ∧ wr = w ∧ Hid (∀ (i : Nat) y, i < j → xs[i]? = some y → y = 0))
  case atStart => exact ⟨0, rfl, by omega, rfl, rfl, fun i y h => absurd h (by omega)⟩
  case round =>
    obtain ⟨j, rfl, hj, hg, rfl, H⟩ := hrel
    have HG := Lib.hid hg
    clear hg
    by_cases hlt : j < xs.length
    · obtain ⟨b, off, rfl, hb, hc⟩ := HR.out (by omega)
      have c0 := hc j hlt
      obtain ⟨x, hx⟩ : ∃ x, xs[j]? = some x := ⟨_, List.getElem?_eq_getElem hlt⟩
      have e : xs.getD j 0 = x := by rw [List.getD_eq_getElem?_getD, hx]; rfl
      rw [e] at c0
      clear hc e
      by_cases h0 : x = 0
      · have HN : Hid (∀ (i : Nat) y, i < j + 1 → xs[i]? = some y → y = 0) := fun i y hi hy => by
          by_cases e : i = j
          · subst e; rw [hx] at hy; cases hy; exact h0
          · exact H.out i y (by omega) hy
        have q0 : (x != 0) = false := by simp [h0]
        clear hx h0
        go_wp2
        go_roundg (xs.length - (j + 1))
        case measure => have := HG.out; omega
        case rel => exact ⟨j + 1, by go_num, by omega, rfl, rfl, HN.out⟩
      · have HE : Hid (orV xs = x) := orV_at hx h0 H.out
        have q0 : (x != 0) = true := by simp [h0]
        clear hx h0
        go_wp2
        go_ret
        exact ⟨ret_int HE.out.symm, rfl⟩
    · have HE : Hid (orV xs = 0) := orV_zero fun i y hy => H.out i y (by have := (List.getElem?_eq_some_iff.1 hy).1; omega) hy
      go_wp2
      go_ret
      exact ⟨ret_int HE.out.symm, rfl⟩
/-- What the comparison yields. -/
def cmpO (a b : Odr) : Int := orV [Lib.compareInt a.train b.train, Lib.compareInt a.kind b.kind]
theorem ltOf_cmpO : ltOf cmpO = befB := by
  funext a b
  unfold ltOf cmpO
  cases h : befB a b
  · rw [befB_false] at h
    refine decide_eq_false ?_
    unfold orV orV orV Lib.compareInt
    (repeat' split) <;> omega
  · rw [befB_true] at h
    refine decide_eq_true ?_
    unfold orV orV orV Lib.compareInt
    (repeat' split) <;> omega
end Go.Proofs.YtifeghhapgpolaaDoor
