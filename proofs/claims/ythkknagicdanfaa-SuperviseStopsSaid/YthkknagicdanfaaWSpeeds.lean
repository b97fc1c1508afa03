/- Walks of package speeds and of its reference: Toward. -/
import Derived.Test.YthkknagicdanfaaWBrake
import Derived.Test.YthkknagicdanfaaPSpeeds
import Derived.Test.YthkknagicdanfaaExt
import Derived.Deep.LoopGhost
set_option linter.unusedVariables false
set_option linter.unusedSimpArgs false
namespace Go.Proofs.Ythkknagicdanfaa
open Go.ChangeShapes Go.WideShapes Go.ChangeAt Go.RowKit
open Sg

theorem rspeed_any (d dec delay : Int) (hd2 : dec ≤ 9223372036854775807) (w : World) : Calls Try.prog 50 #[.int .i64 d, .int .i64 dec, .int .i64 delay] w fun e w' => e = .returned (.int .i64 (spdV d dec delay)) ∧ w = w' := by
  by_cases hd : d < 0
  · have HE := Lib.hid ((spdV_is d dec delay).1 hd)
    go_enter Try.func50, Try.ntmps50
    go_wp2
    go_ret
    exact ⟨ret_int HE.out.symm, rfl⟩
  · have h0 : dstV 0 dec delay = 0 := by rw [dstV, if_pos (by omega)]
    go_enter Try.func50, Try.ntmps50
    go_wp2
    go_loopg [7, 8] 10000 (fun g lo hi wr => ∃ (l h : Int), wr = w ∧ g = (h - l).toNat ∧ lo = .int .i64 l ∧ hi = .int .i64 h ∧ 0 ≤ l ∧ l ≤ h ∧ h ≤ 10000 ∧ Hid (dstV l dec delay ≤ d ∧ (h = 10000 ∨ d < dstV (h + 1) dec delay)))
    case atStart => exact ⟨0, 10000, rfl, rfl, rfl, rfl, by omega, by omega, by omega, by omega, .inl rfl⟩
    case round =>
      obtain ⟨l, h, rfl, hg, rfl, rfl, h1, h2, h3, H⟩ := hrel
      have HG := Lib.hid hg
      clear hg
      by_cases hlt : l < h
      · obtain ⟨b1, b2⟩ := dstV_bd ((l + h + 1) / 2) dec delay
        by_cases hm : dstV ((l + h + 1) / 2) dec delay ≤ d
        · have HM := Lib.hid hm
          go_wp2_with (go_at_call 40; refine (rdist_any _ _ _ hd2 _).mono ?_; rintro e w' ⟨rfl, rfl⟩)
          go_roundg (h - (l + h + 1) / 2).toNat
          case measure => have := HG.out; omega
          case rel => exact ⟨_, _, rfl, rfl, rfl, rfl, by omega, by omega, by omega, HM.out, H.out.2⟩
        · have hm' : d < dstV ((l + h + 1) / 2) dec delay := by omega
          have HM := Lib.hid hm'
          clear hm
          go_wp2_with (go_at_call 40; refine (rdist_any _ _ _ hd2 _).mono ?_; rintro e w' ⟨rfl, rfl⟩)
          go_roundg ((l + h + 1) / 2 - 1 - l).toNat
          case measure => have := HG.out; omega
          case rel => exact ⟨_, _, rfl, rfl, rfl, rfl, by omega, by omega, by omega, H.out.1, .inr (by have := HM.out; rwa [Int.sub_add_cancel])⟩
      · have hle : h = l := by omega
        have HR : Hid (l = spdV d dec delay) := by
          refine IsSpeed.spd ⟨fun h => by omega, fun _ => ⟨h1, by omega, H.out.1, ?_⟩⟩
          have := H.out.2
          rwa [hle] at this
        clear hle
        go_wp2
        go_ret
        exact ⟨ret_int HR.out, rfl⟩
theorem fits_any (u dec delay r : Int) (b1 b2 b3 : Nat) (hd2 : dec ≤ 9223372036854775807) (w : World) (h1 : w.cell? ⟨b1, 0, none⟩ = some (.int .i64 dec)) (h2 : w.cell? ⟨b2, 0, none⟩ = some (.int .i64 delay)) (h3 : w.cell? ⟨b3, 0, none⟩ = some (.int .i64 r)) (l1 : b1 < w.heap.size) (l2 : b2 < w.heap.size) (l3 : b3 < w.heap.size) :
    Calls Try.prog 64 #[.int .i64 u, .pointer (some ⟨b1, 0, none⟩), .pointer (some ⟨b2, 0, none⟩), .pointer (some ⟨b3, 0, none⟩)] w fun e w' => e = .returned (.bool (decide (dstV u dec delay ≤ r))) ∧ Below w.heap.size w w' := by
  go_enter Try.func64, Try.ntmps64
  go_wp2
  refine wp_region_after (by kernel_rfl) (by kernel_rfl) ?_
  repeat (first | go_big_quiet_step ((go_at_call 55; exact after_same _ (dist_any _ _ _ hd2 _))))
  refine wpQuiet_nil ?_
  rintro _ ⟨y, rfl⟩
  go_wp2
  go_ret
  exact ⟨rfl, y.is⟩
theorem tow_no {d t dec delay : Int} (h : noTow d t dec delay) : towV d t dec delay = t := (towV_is d t dec delay).1 h
set_option maxHeartbeats 8000000 in
theorem toward_any (d t dec delay : Int) (hd2 : dec ≤ 9223372036854775807) (w : World) : Calls Try.prog 45 #[.int .i64 d, .int .i64 t, .int .i64 dec, .int .i64 delay] w fun e w' => e = .returned (.int .i64 (towV d t dec delay)) ∧ Below w.heap.size w w' := by
  by_cases hd : d < 0
  · have HE := Lib.hid (tow_no (d := d) (t := t) (dec := dec) (delay := delay) (.inl hd))
    go_enter Try.func45, Try.ntmps45
    go_wp2
    go_ret
    exact ⟨ret_int HE.out.symm, eal (eal (Ext.refl _) _) _⟩
  have hd' : decide (d < 0) = false := decide_eq_false hd
  by_cases hc : dec < 1
  · have HE := Lib.hid (tow_no (d := d) (t := t) (dec := dec) (delay := delay) (.inr (.inl hc)))
    go_enter Try.func45, Try.ntmps45
    go_wp2
    go_ret
    exact ⟨ret_int HE.out.symm, eal (eal (Ext.refl _) _) _⟩
  have hc' : decide (dec < 1) = false := decide_eq_false hc
  obtain ⟨t1, t2⟩ := dstV_bd t dec 0
  have k1 : (d ≤ 1073741824 ∧ roomV d t dec = d + dstV t dec 0) ∨ (1073741824 < d ∧ roomV d t dec = 1073741824 + dstV t dec 0) := by unfold roomV; omega
  by_cases hb : 10000 < t
  · have HE := Lib.hid (tow_no (d := d) (t := t) (dec := dec) (delay := delay) (.inr (.inr (.inl (by omega)))))
    have ht0 : 0 < t := by omega
    rcases k1 with ⟨k1, _⟩ | ⟨k1, _⟩
    all_goals go_enter Try.func45, Try.ntmps45
    all_goals go_wp2_with (go_at_call 55; refine (dist_any _ _ _ hd2 _).mono ?_; rintro e w' ⟨rfl, rfl⟩)
    all_goals go_ret
    all_goals exact ⟨ret_int HE.out.symm, eal (eal (eal (Ext.refl _) _) _) _⟩
  have hb' : decide (10000 < t) = false := decide_eq_false hb
  have k2 : (t < 0 ∧ max t 0 = 0) ∨ (0 ≤ t ∧ max t 0 = t) := by omega
  by_cases hf : dstV (max t 0) dec delay ≤ roomV d t dec
  · have HNT : Hid (¬ noTow d t dec delay) := fun h => by unfold noTow at h; omega
    rcases k1 with ⟨k1, e1⟩ | ⟨k1, e1⟩
    all_goals rcases k2 with ⟨k2, e2⟩ | ⟨k2, e2⟩
    all_goals
      rw [e1, e2] at hf
      have E1 := Lib.hid e1
      have E2 := Lib.hid e2
      have hf' := decide_eq_true hf
      have HF := Lib.hid hf
      clear e1 e2 hf
      go_enter Try.func45, Try.ntmps45
      go_wp2_with (go_at_call 55; refine (dist_any _ _ _ hd2 _).mono ?_; rintro e w' ⟨rfl, rfl⟩)
    all_goals
      have HC1 : Hid (∀ (o1 o2 : Obj), (((w.alloc (.cells #[.int .i64 dec] 3)).alloc o1).alloc o2).cell? ⟨w.heap.size, 0, none⟩ = some (.int .i64 dec)) := fun o1 o2 => (((CellsAt.new (w := w) (cs := #[.int .i64 dec]) (t := 3) rfl).alloc o1).alloc o2).2 0 _ rfl
      have HC2 : Hid (∀ (o1 o2 : Obj), (((w.alloc o1).alloc (.cells #[.int .i64 delay] 3)).alloc o2).cell? ⟨w.heap.size + 1, 0, none⟩ = some (.int .i64 delay)) := fun o1 o2 => ((CellsAt.new (w := w.alloc o1) (cs := #[.int .i64 delay]) (t := 3) (by simp)).alloc o2).2 0 _ rfl
      have HC3 : Hid (∀ (o1 o2 : Obj) (r : Int), (((w.alloc o1).alloc o2).alloc (.cells #[.int .i64 r] 3)).cell? ⟨w.heap.size + 1 + 1, 0, none⟩ = some (.int .i64 r)) := fun o1 o2 r => (CellsAt.new (w := (w.alloc o1).alloc o2) (cs := #[.int .i64 r]) (t := 3) (by simp)).2 0 _ rfl
      refine (to_after (fits_any _ dec delay _ w.heap.size (w.heap.size + 1) (w.heap.size + 1 + 1) hd2 _ (HC1.out _ _) (HC2.out _ _) (HC3.out _ _ _) (by simp; omega) (by simp) (by simp))).mono ?_
      rintro e w' ⟨y, rfl, rfl⟩
      rw [hf']
      go_wp2
      have HYC : Hid (y.val.cell? ⟨w.heap.size, 0, none⟩ = some (.int .i64 dec) ∧ y.val.cell? ⟨w.heap.size + 1, 0, none⟩ = some (.int .i64 delay) ∧ y.val.cell? ⟨w.heap.size + 1 + 1, 0, none⟩ = some (.int .i64 (roomV d t dec)) ∧ w.heap.size + 1 + 1 < y.val.heap.size) := by
        show _ ∧ _
        rw [E1.out]
        exact ⟨(y.cell _ _ (by simp; omega)).trans (HC1.out _ _), (y.cell _ _ (by simp)).trans (HC2.out _ _), (y.cell _ _ (by simp)).trans (HC3.out _ _ _), by have := y.is.size; simp at this; omega⟩
      have HY := Lib.hid (etr (eal (eal (eal (Ext.refl w) _) _) _) y.is)
      have hf3 : dstV (max t 0) dec delay ≤ roomV d t dec := by rw [E1.out, E2.out]; exact HF.out
      have HF3 := Lib.hid hf3
      clear hf3 hf'
      obtain ⟨wy, hwy⟩ : ∃ wy, wy = y.val := ⟨_, rfl⟩
      rw [← hwy] at HYC HY ⊢
      clear hwy HC1 HC2 HC3
      go_loopg [11, 12] 10000 (fun g lo hi wr => ∃ (l h : Int), (h - l).toNat ≤ g ∧ lo = .int .i64 l ∧ hi = .int .i64 h ∧ 0 ≤ l ∧ max t 0 ≤ l ∧ l ≤ h ∧ h ≤ 10000 ∧ Hid (Ext wy wr ∧ dstV l dec delay ≤ roomV d t dec ∧ (h = 10000 ∨ roomV d t dec < dstV (h + 1) dec delay)))
    all_goals first
      | (case atStart => exact ⟨_, 10000, by omega, rfl, rfl, by omega, by have := E2.out; omega, by omega, by omega, Ext.refl _, by rw [E1.out]; exact HF.out, .inl rfl⟩)
      | skip
    all_goals
      obtain ⟨l, h, hg, rfl, rfl, h0, h1, h2, h3, H⟩ := hrel
      have HG := Lib.hid hg
      clear hg
      by_cases hlt : l < h
      · have hsz := H.out.1.size
        have q1 := (H.out.1.cell (p := ⟨w.heap.size, 0, none⟩) (by have := HYC.out.2.2.2; show w.heap.size < _; omega)).trans HYC.out.1
        have q2 := (H.out.1.cell (p := ⟨w.heap.size + 1, 0, none⟩) (by have := HYC.out.2.2.2; show w.heap.size + 1 < _; omega)).trans HYC.out.2.1
        have q3 := (H.out.1.cell (p := ⟨w.heap.size + 1 + 1, 0, none⟩) HYC.out.2.2.2).trans HYC.out.2.2.1
        have qz : w.heap.size + 1 + 1 < wr.heap.size := by have := HYC.out.2.2.2; omega
        have Q1 := Lib.hid q1
        have Q2 := Lib.hid q2
        have Q3 := Lib.hid q3
        clear q1 q2 q3
        by_cases hm : dstV ((l + h + 1) / 2) dec delay ≤ roomV d t dec
        · have HM := Lib.hid hm
          have HM2 := Lib.hid (decide_eq_true hm)
          clear hm
          go_wp2_with fail
          refine (to_after (fits_any _ dec delay _ w.heap.size (w.heap.size + 1) (w.heap.size + 1 + 1) hd2 _ Q1.out Q2.out Q3.out (by omega) (by omega) qz)).mono ?_
          rintro e w' ⟨y2, rfl, rfl⟩
          rw [HM2.out]
          go_wp2
          go_roundg (h - (l + h + 1) / 2).toNat
          case measure => have := HG.out; omega
          case rel => exact ⟨_, _, Nat.le_refl _, rfl, rfl, by omega, by omega, by omega, by omega, etr H.out.1 y2.is, HM.out, H.out.2.2⟩
        · have hm' : roomV d t dec < dstV ((l + h + 1) / 2) dec delay := by omega
          have HM := Lib.hid hm'
          have HM2 := Lib.hid (decide_eq_false hm)
          clear hm hm'
          go_wp2_with fail
          refine (to_after (fits_any _ dec delay _ w.heap.size (w.heap.size + 1) (w.heap.size + 1 + 1) hd2 _ Q1.out Q2.out Q3.out (by omega) (by omega) qz)).mono ?_
          rintro e w' ⟨y2, rfl, rfl⟩
          rw [HM2.out]
          go_wp2
          go_roundg ((l + h + 1) / 2 - 1 - l).toNat
          case measure => have := HG.out; omega
          case rel => exact ⟨_, _, Nat.le_refl _, rfl, rfl, by omega, by omega, by omega, by omega, etr H.out.1 y2.is, H.out.2.1, .inr (by have := HM.out; rwa [Int.sub_add_cancel])⟩
      · have hle : h = l := by omega
        have HR : Hid (l = towV d t dec delay) := by
          refine IsTow.tow ⟨fun hh => absurd hh HNT.out, fun _ => ⟨h1, by omega, H.out.2.1, ?_⟩⟩
          have := H.out.2.2
          rwa [hle] at this
        clear hle
        go_wp2
        go_ret
        exact ⟨ret_int HR.out, etr HY.out H.out.1⟩
  · have HE := Lib.hid (tow_no (d := d) (t := t) (dec := dec) (delay := delay) (.inr (.inr (.inr (by omega)))))
    rcases k1 with ⟨k1, e1⟩ | ⟨k1, e1⟩
    all_goals rcases k2 with ⟨k2, e2⟩ | ⟨k2, e2⟩
    all_goals
      rw [e1, e2] at hf
      have HF := Lib.hid (decide_eq_false hf)
      clear e1 e2 hf
      go_enter Try.func45, Try.ntmps45
      go_wp2_with (go_at_call 55; refine (dist_any _ _ _ hd2 _).mono ?_; rintro e w' ⟨rfl, rfl⟩)
    all_goals
      have HC1 : Hid (∀ (o1 o2 : Obj), (((w.alloc (.cells #[.int .i64 dec] 3)).alloc o1).alloc o2).cell? ⟨w.heap.size, 0, none⟩ = some (.int .i64 dec)) := fun o1 o2 => (((CellsAt.new (w := w) (cs := #[.int .i64 dec]) (t := 3) rfl).alloc o1).alloc o2).2 0 _ rfl
      have HC2 : Hid (∀ (o1 o2 : Obj), (((w.alloc o1).alloc (.cells #[.int .i64 delay] 3)).alloc o2).cell? ⟨w.heap.size + 1, 0, none⟩ = some (.int .i64 delay)) := fun o1 o2 => ((CellsAt.new (w := w.alloc o1) (cs := #[.int .i64 delay]) (t := 3) (by simp)).alloc o2).2 0 _ rfl
      have HC3 : Hid (∀ (o1 o2 : Obj) (r : Int), (((w.alloc o1).alloc o2).alloc (.cells #[.int .i64 r] 3)).cell? ⟨w.heap.size + 1 + 1, 0, none⟩ = some (.int .i64 r)) := fun o1 o2 r => (CellsAt.new (w := (w.alloc o1).alloc o2) (cs := #[.int .i64 r]) (t := 3) (by simp)).2 0 _ rfl
      refine (to_after (fits_any _ dec delay _ w.heap.size (w.heap.size + 1) (w.heap.size + 1 + 1) hd2 _ (HC1.out _ _) (HC2.out _ _) (HC3.out _ _ _) (by simp; omega) (by simp) (by simp))).mono ?_
      rintro e w' ⟨y, rfl, rfl⟩
      rw [HF.out]
      go_wp2
      go_ret
      exact ⟨ret_int HE.out.symm, etr (eal (eal (eal (Ext.refl w) _) _) _) y.is⟩
set_option maxHeartbeats 8000000 in
theorem rtoward_any (d t dec delay : Int) (hd2 : dec ≤ 9223372036854775807) (w : World) : Calls Try.prog 51 #[.int .i64 d, .int .i64 t, .int .i64 dec, .int .i64 delay] w fun e w' => e = .returned (.int .i64 (towV d t dec delay)) ∧ w = w' := by
  by_cases hd : d < 0
  · have HE := Lib.hid (tow_no (d := d) (t := t) (dec := dec) (delay := delay) (.inl hd))
    go_enter Try.func51, Try.ntmps51
    go_wp2
    go_ret
    exact ⟨ret_int HE.out.symm, rfl⟩
  have hd' : decide (d < 0) = false := decide_eq_false hd
  by_cases hc : dec < 1
  · have HE := Lib.hid (tow_no (d := d) (t := t) (dec := dec) (delay := delay) (.inr (.inl hc)))
    go_enter Try.func51, Try.ntmps51
    go_wp2
    go_ret
    exact ⟨ret_int HE.out.symm, rfl⟩
  have hc' : decide (dec < 1) = false := decide_eq_false hc
  by_cases hb : 10000 ≤ t
  · have HE : Hid (towV d t dec delay = t) := by
      by_cases hn : noTow d t dec delay
      · exact tow_no hn
      · have h1 := towV_ge d t dec delay
        have h2 := ((towV_is d t dec delay).2 hn).2.1
        show _ = _; omega
    go_enter Try.func51, Try.ntmps51
    go_wp2
    go_ret
    exact ⟨ret_int HE.out.symm, rfl⟩
  have hb' : decide (10000 ≤ t) = false := decide_eq_false hb
  obtain ⟨t1, t2⟩ := dstV_bd t dec 0
  have k1 : (d ≤ 1073741824 ∧ roomV d t dec = d + dstV t dec 0) ∨ (1073741824 < d ∧ roomV d t dec = 1073741824 + dstV t dec 0) := by unfold roomV; omega
  have k2 : (t < 0 ∧ max t 0 = 0) ∨ (0 ≤ t ∧ max t 0 = t) := by omega
  by_cases hf : dstV (max t 0) dec delay ≤ roomV d t dec
  · have HNT : Hid (¬ noTow d t dec delay) := fun h => by unfold noTow at h; omega
    rcases k1 with ⟨k1, e1⟩ | ⟨k1, e1⟩
    all_goals rcases k2 with ⟨k2, e2⟩ | ⟨k2, e2⟩
    all_goals
      have HF3 := Lib.hid hf
      have E1 := Lib.hid e1
      rw [e1, e2] at hf
      have hf' := decide_eq_false (show ¬ _ < _ from Int.not_lt.2 hf)
      have HF := Lib.hid hf
      have hm1 := max t 0
      clear e1 hf hm1
      go_enter Try.func51, Try.ntmps51
      go_wp2_with (go_at_call 40; refine (rdist_any _ _ _ hd2 _).mono ?_; rintro e w' ⟨rfl, rfl⟩)
      rw [← E1.out] at *
      go_loopg [10, 11] 10001 (fun g lo hi wr => ∃ (l h : Int), w = wr ∧ (h - l).toNat ≤ g ∧ lo = .int .i64 l ∧ hi = .int .i64 h ∧ 0 ≤ l ∧ max t 0 ≤ l ∧ l + 1 ≤ h ∧ h ≤ 10001 ∧ Hid (dstV l dec delay ≤ roomV d t dec ∧ (h = 10001 ∨ roomV d t dec < dstV h dec delay)))
    all_goals first
      | (case atStart => exact ⟨_, 10001, rfl, by omega, rfl, rfl, by omega, by omega, by omega, by omega, by have := HF3.out; rwa [e2] at this, .inl rfl⟩)
      | skip
    all_goals
      obtain ⟨l, h, rfl, hg, rfl, rfl, h0, h1, h2, h3, H⟩ := hrel
      have HG := Lib.hid hg
      have HE2 := Lib.hid e2
      clear hg e2
      obtain ⟨b1, b2⟩ := dstV_bd ((l + h) / 2) dec delay
      by_cases hlt : 1 < h - l
      · by_cases hm : dstV ((l + h) / 2) dec delay ≤ roomV d t dec
        · have HM := Lib.hid hm
          go_wp2_with (go_at_call 40; refine (rdist_any _ _ _ hd2 _).mono ?_; rintro e w' ⟨rfl, rfl⟩)
          go_roundg (h - (l + h) / 2).toNat
          case measure => have := HG.out; omega
          case rel => exact ⟨_, _, rfl, Nat.le_refl _, rfl, rfl, by omega, by omega, by omega, by omega, HM.out, H.out.2⟩
        · have hm' : decide (dstV ((l + h) / 2) dec delay ≤ roomV d t dec) = false := decide_eq_false hm
          have HM := Lib.hid (show roomV d t dec < dstV ((l + h) / 2) dec delay by omega)
          clear hm
          go_wp2_with (go_at_call 40; refine (rdist_any _ _ _ hd2 _).mono ?_; rintro e w' ⟨rfl, rfl⟩)
          go_roundg ((l + h) / 2 - l).toNat
          case measure => have := HG.out; omega
          case rel => exact ⟨_, _, rfl, Nat.le_refl _, rfl, rfl, by omega, by omega, by omega, by omega, H.out.1, .inr HM.out⟩
      · have HR : Hid (l = towV d t dec delay) := by
          refine IsTow.tow ⟨fun hh => absurd hh HNT.out, fun _ => ⟨h1, by omega, H.out.1, ?_⟩⟩
          rcases H.out.2 with k | k
          · exact .inl (by omega)
          · right; rwa [show l + 1 = h by omega]
        have hlt' : decide (1 < h - l) = false := decide_eq_false hlt
        go_wp2
        go_ret
        exact ⟨ret_int HR.out, rfl⟩
  · have HE := Lib.hid (tow_no (d := d) (t := t) (dec := dec) (delay := delay) (.inr (.inr (.inr (by omega)))))
    rcases k1 with ⟨k1, e1⟩ | ⟨k1, e1⟩
    all_goals rcases k2 with ⟨k2, e2⟩ | ⟨k2, e2⟩
    all_goals
      rw [e1, e2] at hf
      have hf' : _ < _ := Int.not_le.1 hf
      clear e1 e2 hf
      go_enter Try.func51, Try.ntmps51
      go_wp2_with (go_at_call 40; refine (rdist_any _ _ _ hd2 _).mono ?_; rintro e w' ⟨rfl, rfl⟩)
      go_ret
      exact ⟨ret_int HE.out.symm, rfl⟩
end Go.Proofs.Ythkknagicdanfaa
