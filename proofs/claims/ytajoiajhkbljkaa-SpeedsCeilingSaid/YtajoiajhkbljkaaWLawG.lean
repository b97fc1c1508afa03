/- Chapter 33's laws: near, fine, alive. -/
import Derived.Test.YtajoiajhkbljkaaWSpeeds4
import Derived.Test.YtajoiajhkbljkaaWTrain
set_option linter.unusedVariables false
set_option linter.unusedSimpArgs false
namespace Go.Proofs.Ytajoiajhkbljkaa
open Go.ChangeShapes Go.WideShapes Go.ChangeAt Go.RowKit
open Sg

def nearB (x : Int) : Bool := decide (-2147483648 ≤ x) && decide (x ≤ 2147483648)
theorem nearB_iff {x : Int} : nearB x = true ↔ -2147483648 ≤ x ∧ x ≤ 2147483648 := by simp [nearB]
theorem near_any (x : Int) (w : World) : Calls Try.prog 21 #[.int .i64 x] w fun e w' => e = .returned (.bool (nearB x)) ∧ w = w' := by
  by_cases h1 : -2147483648 ≤ x
  · by_cases h2 : x ≤ 2147483648
    · have HE : Hid (nearB x = true) := by show _ = _; simp [nearB, h1, h2]
      go_enter Try.func21, Try.ntmps21
      go_wp2
      go_ret
      exact ⟨by rw [HE.out]; rfl, rfl⟩
    · have HE : Hid (nearB x = false) := by show _ = _; simp [nearB, h1, h2]
      go_enter Try.func21, Try.ntmps21
      go_wp2
      go_ret
      exact ⟨by rw [HE.out]; rfl, rfl⟩
  · have HE : Hid (nearB x = false) := by show _ = _; simp [nearB, h1]
    go_enter Try.func21, Try.ntmps21
    go_wp2
    go_ret
    exact ⟨by rw [HE.out]; rfl, rfl⟩
def fineB (T : Tr) (p : List Sgm) (E : Es) (en : Int) : Bool := decide (chkE T = 0) && decide (p.length ≤ 200) && nearB E.min && nearB E.max && nearB en
structure Fine (T : Tr) (p : List Sgm) (E : Es) (en : Int) : Prop where
  tr : TrOk T
  len : p.length ≤ 200
  near : NearB T E en
  n1 : -2147483648 ≤ E.min ∧ E.min ≤ 2147483648
  n2 : -2147483648 ≤ E.max ∧ E.max ≤ 2147483648
  n3 : -2147483648 ≤ en ∧ en ≤ 2147483648
theorem fine_of {T : Tr} {p : List Sgm} {E : Es} {en : Int} (h : fineB T p E en = true) : Fine T p E en := by
  simp only [fineB, Bool.and_eq_true, decide_eq_true_eq] at h
  obtain ⟨⟨⟨⟨h1, h2⟩, h3⟩, h4⟩, h5⟩ := h
  have t := chkE_ok h1
  have a := nearB_iff.1 h3
  have b := nearB_iff.1 h4
  have c := nearB_iff.1 h5
  have l := t.len
  exact ⟨t, h2, ⟨by omega, by omega, by omega, by omega⟩, a, b, c⟩
set_option maxHeartbeats 4000000 in
theorem fine_any (T : Tr) (E : Es) (en : Int) (A : Option Addr) (p : List Sgm) (cap : Nat) (w : World) (hs : T.name.size ≤ maxLen) :
    Calls Try.prog 12 #[.agg #[.int .i64 T.id, .string T.name, .int .i64 T.len, .int .i64 T.speed, .int .i64 T.accel, .int .i64 T.service, .int .i64 T.emergency, .int .i64 T.delay, .int .i64 T.cons, .int .i64 T.rate], .slice A p.length cap, .agg #[.int .i64 E.min, .int .i64 E.max, .int .i64 E.speed], .int .i64 en] w fun e w' => e = .returned (.bool (fineB T p E en)) ∧ Below w.heap.size w w' := by
  have HB0 := Lib.hid (eal (eal (Ext.refl w) (.cells ([.int .i64 T.id, .string T.name, .int .i64 T.len, .int .i64 T.speed, .int .i64 T.accel, .int .i64 T.service, .int .i64 T.emergency, .int .i64 T.delay, .int .i64 T.cons, .int .i64 T.rate]).toArray 26)) (.cells ([.int .i64 E.min, .int .i64 E.max, .int .i64 E.speed]).toArray 32))
  obtain ⟨b, hb⟩ : ∃ b, b = fineB T p E en := ⟨_, rfl⟩
  rw [← hb]
  unfold fineB at hb
  by_cases hk : chkE T = 0
  · by_cases hl : (p.length : Int) ≤ 200
    · have hl' : p.length ≤ 200 := by omega
      cases n1 : nearB E.min
      · have HE : Hid (b = false) := by show _ = _; simp [hb, n1]
        clear hb
        go_enter Try.func12, Try.ntmps12
        go_wp2_with (first
          | (go_at_call 24; refine (to_after (rcheck_any T _ hs)).mono ?_; rintro e w' ⟨y, rfl, rfl⟩)
          | (go_at_call 21; refine (near_any _ _).mono ?_; rintro e w' ⟨rfl, rfl⟩))
        go_ret
        exact ⟨by rw [HE.out]; rfl, eafter HB0.out y⟩
      · cases n2 : nearB E.max
        · have HE : Hid (b = false) := by show _ = _; simp [hb, n2]
          clear hb
          go_enter Try.func12, Try.ntmps12
          go_wp2_with (first
            | (go_at_call 24; refine (to_after (rcheck_any T _ hs)).mono ?_; rintro e w' ⟨y, rfl, rfl⟩)
            | (go_at_call 21; refine (near_any _ _).mono ?_; rintro e w' ⟨rfl, rfl⟩))
          go_ret
          exact ⟨by rw [HE.out]; rfl, eafter HB0.out y⟩
        · have HE : Hid (b = nearB en) := by show _ = _; simp [hb, n1, n2, hk, hl']
          clear hb
          go_enter Try.func12, Try.ntmps12
          go_wp2_with (first
            | (go_at_call 24; refine (to_after (rcheck_any T _ hs)).mono ?_; rintro e w' ⟨y, rfl, rfl⟩)
            | (go_at_call 21; refine (near_any _ _).mono ?_; rintro e w' ⟨rfl, rfl⟩))
          go_ret
          exact ⟨by rw [HE.out]; rfl, eafter HB0.out y⟩
    · have hl' : ¬ p.length ≤ 200 := by omega
      have HE : Hid (b = false) := by show _ = _; simp [hb, hl']
      clear hb
      go_enter Try.func12, Try.ntmps12
      go_wp2_with (first
        | (go_at_call 24; refine (to_after (rcheck_any T _ hs)).mono ?_; rintro e w' ⟨y, rfl, rfl⟩))
      go_ret
      exact ⟨by rw [HE.out]; rfl, eafter HB0.out y⟩
  · have HE : Hid (b = false) := by show _ = _; simp [hb, hk]
    clear hb
    go_enter Try.func12, Try.ntmps12
    go_wp2_with (first
      | (go_at_call 24; refine (to_after (rcheck_any T _ hs)).mono ?_; rintro e w' ⟨y, rfl, rfl⟩))
    go_ret
    exact ⟨by rw [HE.out]; rfl, eafter HB0.out y⟩
def exTr : Tr := ⟨1, ⟨#[116]⟩, 5000, 3000, 50, 10, 20, 0, 0, 0⟩
def exSg : Sgm := ⟨-6000, 450, 0, 2000⟩
def exEs : Es := ⟨0, 0, 0⟩
theorem ex_valid : validB [exSg] = true := validB_true.2 ⟨by decide, fun i hi => by
  have : i = 0 := by simp at hi; omega
  subst this
  exact ⟨by simp [exSg, SegOk], .inl rfl⟩⟩
theorem tow_of {d t dec delay r : Int} (h : ¬ noTow d t dec delay) (h1 : max t 0 ≤ r) (h2 : r ≤ 10000) (h3 : dstV r dec delay ≤ roomV d t dec) (h4 : roomV d t dec < dstV (r + 1) dec delay) : towV d t dec delay = r :=
  (IsTow.tow ⟨fun c => absurd c h, fun _ => ⟨h1, h2, h3, .inr h4⟩⟩).symm
theorem ex_tow1 : towV 450 0 10 0 = 100 := tow_of (by unfold noTow; decide) (by decide) (by decide) (by decide) (by decide)
theorem ex_tow2 : towV 0 100 10 0 = 100 := tow_of (by unfold noTow; decide) (by decide) (by decide) (by decide) (by decide)
theorem ex_tow3 : towV 90 100 10 0 = 109 := tow_of (by unfold noTow; decide) (by decide) (by decide) (by decide) (by decide)
theorem ex_tow4 : towV (-1) 70 10 0 = 70 := (towV_is (-1) 70 10 0).1 (.inl (by decide))
theorem ex_slow : slowV [exSg] (-5000) 0 = 2000 := by rw [slowV, touL, if_pos ex_valid]; decide
theorem ex_ceil : ceilV exTr [exSg] exEs = 2000 := by rw [ceilV]; show min 3000 (slowV [exSg] (0 - 5000) 0) = 2000; rw [show (0 - 5000 : Int) = -5000 by decide, ex_slow]; decide
theorem ex_steep : steepV [exSg] 0 450 = 0 := by rw [steepV, touL, if_pos ex_valid]; decide
theorem ex_spd : spdV 450 10 0 = 100 := (IsSpeed.spd ⟨fun h => absurd h (by decide), fun _ => ⟨by decide, by decide, by decide, .inr (by decide)⟩⟩).symm
theorem ex_perm : permV exTr [exSg] exEs 450 = 100 := by
  rw [permV, if_pos ex_valid]
  have hd : decV exTr [exSg] exEs 450 = 10 := by
    show effV 10 (steepV [exSg] 0 450) = 10
    rw [ex_steep]; decide
  rw [hd, ex_ceil]
  have hs : stopV exTr 10 exEs 450 = 100 := by show max 0 (spdV (450 - 0) 10 0) = 100; rw [show (450 - 0 : Int) = 450 by decide, ex_spd]; decide
  rw [hs]
  show minL (min 2000 100) (ahdL 10 0 0 [exSg]) = 100
  have ha : ahdL 10 0 0 [exSg] = [] := by simp [ahdL, pastB, exSg]
  rw [ha]; decide
set_option maxHeartbeats 8000000 in
theorem alive_any (w : World) : Calls Try.prog 11 #[] w fun e w' => e = .returned (.bool true) ∧ Below w.heap.size w w' := by
  obtain ⟨w0, hw0⟩ : ∃ w0, w0 = ((w.alloc (.cells #[.int .i64 1, .string ⟨#[116]⟩, .int .i64 5000, .int .i64 3000, .int .i64 50, .int .i64 10, .int .i64 20, .int .i64 0, .int .i64 0, .int .i64 0] 26)).alloc (.cells #[.int .i64 (-6000), .int .i64 450, .int .i64 0, .int .i64 2000] 44)).alloc (.cells #[.int .i64 1, .int .i64 450, .slice (some ⟨w.heap.size + 1, 0, none⟩) 1 1, .slice none 0 0] 30) := ⟨_, rfl⟩
  have HX0 : Hid (Ext w w0) := by show Ext _ _; rw [hw0]; exact eal (eal (eal (Ext.refl w) _) _) _
  have HT : Hid (CellsAt w0 w.heap.size [.int .i64 1, .string ⟨#[116]⟩, .int .i64 5000, .int .i64 3000, .int .i64 50, .int .i64 10, .int .i64 20, .int .i64 0, .int .i64 0, .int .i64 0]) := by show CellsAt _ _ _; rw [hw0]; exact ((CellsAt.new (w := w) rfl).alloc _).alloc _
  have HS : Hid (CellsAt w0 (w.heap.size + 1) [.int .i64 (-6000), .int .i64 450, .int .i64 0, .int .i64 2000]) := by show CellsAt _ _ _; rw [hw0]; exact (CellsAt.new (by simp)).alloc _
  have HA : Hid (CellsAt w0 (w.heap.size + 1 + 1) [.int .i64 1, .int .i64 450, .slice (some ⟨w.heap.size + 1, 0, none⟩) 1 1, .slice none 0 0]) := by show CellsAt _ _ _; rw [hw0]; exact CellsAt.new (by simp)
  have HR : Hid (Rd w0 (some ⟨w.heap.size + 1, 0, none⟩) 4 Sgc [exSg]) := rd_cells (xs := [exSg]) Sgc_len HS.out
  go_enter Try.func11, Try.ntmps11
  go_wp2_with fail
  rw [← hw0]
  clear hw0
  refine (to_after (toward_any 450 0 10 0 (by decide) _)).mono ?_
  rintro e w' ⟨y1, rfl, rfl⟩
  rw [ex_tow1]
  go_wp2_with fail
  refine (to_after (toward_any 0 100 10 0 (by decide) _)).mono ?_
  rintro e w' ⟨y2, rfl, rfl⟩
  rw [ex_tow2]
  go_wp2_with fail
  refine (to_after (toward_any 90 100 10 0 (by decide) _)).mono ?_
  rintro e w' ⟨y3, rfl, rfl⟩
  rw [ex_tow3]
  go_wp2_with fail
  refine (to_after (toward_any (-1) 70 10 0 (by decide) _)).mono ?_
  rintro e w' ⟨y4, rfl, rfl⟩
  rw [ex_tow4]
  have HX4 : Hid (Ext w0 y4.val) := etr (etr (etr y1.is y2.is) y3.is) y4.is
  have t := HT.out.keep HX4.out
  have t0 := t.2 0 _ rfl
  have t1 := t.2 1 _ rfl
  have t2 := t.2 2 _ rfl
  have t3 := t.2 3 _ rfl
  have t4 := t.2 4 _ rfl
  have t5 := t.2 5 _ rfl
  have t6 := t.2 6 _ rfl
  have t7 := t.2 7 _ rfl
  have t8 := t.2 8 _ rfl
  have t9 := t.2 9 _ rfl
  have tz := t.1
  have u := HA.out.keep HX4.out
  have u0 := u.2 0 _ rfl
  have u1 := u.2 1 _ rfl
  have u2 := u.2 2 _ rfl
  have u3 := u.2 3 _ rfl
  have uz := u.1
  clear t u
  go_wp2_with fail
  refine (to_after (ceil_any exTr exEs (some ⟨w.heap.size + 1, 0, none⟩) [exSg] 1 _ (by unfold maxLen; decide) (by decide) (by decide) (HR.out.keep HX4.out))).mono ?_
  rintro e w' ⟨y5, rfl, rfl⟩
  rw [ex_ceil]
  go_wp2_with fail
  refine (to_after (perm_any exTr exEs 1 450 (some ⟨w.heap.size + 1, 0, none⟩) none [exSg] 1 0 0 _ (by decide) ⟨by decide, by decide, by decide, by decide⟩ (HR.out.keep (etr HX4.out y5.is)))).mono ?_
  rintro e w' ⟨y6, rfl, rfl⟩
  rw [ex_perm]
  go_wp2
  go_ret
  exact ⟨rfl, eafter (etr (etr HX0.out HX4.out) y5.is) y6⟩
end Go.Proofs.Ytajoiajhkbljkaa
