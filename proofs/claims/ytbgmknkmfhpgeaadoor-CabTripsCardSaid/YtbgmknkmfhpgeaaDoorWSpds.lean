/- Several texts in one: WSpeeds, WSpeeds2, WSpeeds3, WSpeeds4. -/
import Derived.Test.YtbgmknkmfhpgeaaDoorWBrake
import Derived.Test.YtbgmknkmfhpgeaaDoorPAll
import Derived.Test.YtbgmknkmfhpgeaaDoorExt
import Derived.Deep.LoopGhost
import Derived.Test.YtbgmknkmfhpgeaaDoorWProfs
import Derived.Test.YtbgmknkmfhpgeaaDoorWTrain
import Derived.IntWalk
set_option linter.unusedVariables false
set_option linter.unusedSimpArgs false
namespace Go.Proofs.YtbgmknkmfhpgeaaDoor
open Go.ChangeShapes Go.WideShapes Go.ChangeAt Go.RowKit
open Sg

theorem rspeed_any (d dec delay : Int) (hd2 : dec ≤ 9223372036854775807) (w : World) : Calls Tryd.prog 113 #[.int .i64 d, .int .i64 dec, .int .i64 delay] w fun e w' => e = .returned (.int .i64 (spdV d dec delay)) ∧ w = w' := by
  by_cases hd : d < 0
  · have HE := Lib.hid ((spdV_is d dec delay).1 hd)
    go_enter Tryd.func113, Tryd.ntmps113
    go_wp2
    go_ret
    exact ⟨ret_int HE.out.symm, rfl⟩
  · have h0 : dstV 0 dec delay = 0 := by rw [dstV, if_pos (by omega)]
    go_enter Tryd.func113, Tryd.ntmps113
    go_wp2
    go_loopg [7, 8] 10000 (fun g lo hi wr => ∃ (l h : Int), wr = w ∧ g = (h - l).toNat ∧ lo = .int .i64 l ∧ hi = .int .i64 h ∧ 0 ≤ l ∧ l ≤ h ∧ h ≤ 10000 ∧ Hid (dstV l dec delay ≤ d ∧ (h = 10000 ∨ d < dstV (h + 1) dec delay)))
    case atStart => exact ⟨0, 10000, rfl, rfl, rfl, rfl, by omega, by omega, by omega, by omega, .inl rfl⟩
    case round =>
      obtain ⟨l, h, rfl, hg, rfl, rfl, h1, h2, h3, H⟩ := hrel
      have HG := Lib.hid hg
      clear hg
      by_cases hlt : l < h
      · obtain ⟨b1, b2⟩ := dstV_bd ((l + h + 1) / 2) dec delay
        by_cases hm : dstV ((l + h + 1) / 2) dec delay ≤ d
        · have HM := Lib.hid hm
          go_wp2_with (go_at_call 79; refine (rdist_any _ _ _ hd2 _).mono ?_; rintro e w' ⟨rfl, rfl⟩)
          go_roundg (h - (l + h + 1) / 2).toNat
          case measure => have := HG.out; omega
          case rel => exact ⟨_, _, rfl, rfl, rfl, rfl, by omega, by omega, by omega, HM.out, H.out.2⟩
        · have hm' : d < dstV ((l + h + 1) / 2) dec delay := by omega
          have HM := Lib.hid hm'
          clear hm
          go_wp2_with (go_at_call 79; refine (rdist_any _ _ _ hd2 _).mono ?_; rintro e w' ⟨rfl, rfl⟩)
          go_roundg ((l + h + 1) / 2 - 1 - l).toNat
          case measure => have := HG.out; omega
          case rel => exact ⟨_, _, rfl, rfl, rfl, rfl, by omega, by omega, by omega, H.out.1, .inr (by have := HM.out; rwa [Int.sub_add_cancel])⟩
      · have hle : h = l := by omega
        have HR : Hid (l = spdV d dec delay) := by
          refine IsSpeed.spd ⟨fun h => by omega, fun _ => ⟨h1, by omega, H.out.1, ?_⟩⟩
          have := H.out.2
          rwa [hle] at this
        clear hle
        go_wp2
        go_ret
        exact ⟨ret_int HR.out, rfl⟩
theorem fits_any (u dec delay r : Int) (b1 b2 b3 : Nat) (hd2 : dec ≤ 9223372036854775807) (w : World) (h1 : w.cell? ⟨b1, 0, none⟩ = some (.int .i64 dec)) (h2 : w.cell? ⟨b2, 0, none⟩ = some (.int .i64 delay)) (h3 : w.cell? ⟨b3, 0, none⟩ = some (.int .i64 r)) (l1 : b1 < w.heap.size) (l2 : b2 < w.heap.size) (l3 : b3 < w.heap.size) :
    Calls Tryd.prog 125 #[.int .i64 u, .pointer (some ⟨b1, 0, none⟩), .pointer (some ⟨b2, 0, none⟩), .pointer (some ⟨b3, 0, none⟩)] w fun e w' => e = .returned (.bool (decide (dstV u dec delay ≤ r))) ∧ Below w.heap.size w w' := by
  go_enter Tryd.func125, Tryd.ntmps125
  go_wp2
  refine wp_region_after (by kernel_rfl) (by kernel_rfl) ?_
  repeat (first | go_big_quiet_step ((go_at_call 124; exact after_same _ (dist_any _ _ _ hd2 _))))
  refine wpQuiet_nil ?_
  rintro _ ⟨y, rfl⟩
  go_wp2
  go_ret
  exact ⟨rfl, y.is⟩
theorem tow_no {d t dec delay : Int} (h : noTow d t dec delay) : towV d t dec delay = t := (towV_is d t dec delay).1 h
set_option maxHeartbeats 8000000 in
theorem toward_any (d t dec delay : Int) (hd2 : dec ≤ 9223372036854775807) (w : World) : Calls Tryd.prog 106 #[.int .i64 d, .int .i64 t, .int .i64 dec, .int .i64 delay] w fun e w' => e = .returned (.int .i64 (towV d t dec delay)) ∧ Below w.heap.size w w' := by
  by_cases hd : d < 0
  · have HE := Lib.hid (tow_no (d := d) (t := t) (dec := dec) (delay := delay) (.inl hd))
    go_enter Tryd.func106, Tryd.ntmps106
    go_wp2
    go_ret
    exact ⟨ret_int HE.out.symm, eal (eal (Ext.refl _) _) _⟩
  have hd' : decide (d < 0) = false := decide_eq_false hd
  by_cases hc : dec < 1
  · have HE := Lib.hid (tow_no (d := d) (t := t) (dec := dec) (delay := delay) (.inr (.inl hc)))
    go_enter Tryd.func106, Tryd.ntmps106
    go_wp2
    go_ret
    exact ⟨ret_int HE.out.symm, eal (eal (Ext.refl _) _) _⟩
  have hc' : decide (dec < 1) = false := decide_eq_false hc
  obtain ⟨t1, t2⟩ := dstV_bd t dec 0
  have k1 : (d ≤ 1073741824 ∧ roomV d t dec = d + dstV t dec 0) ∨ (1073741824 < d ∧ roomV d t dec = 1073741824 + dstV t dec 0) := by unfold roomV; omega
  by_cases hb : 10000 < t
  · have HE := Lib.hid (tow_no (d := d) (t := t) (dec := dec) (delay := delay) (.inr (.inr (.inl (by omega)))))
    have ht0 : 0 < t := by omega
    rcases k1 with ⟨k1, _⟩ | ⟨k1, _⟩
    all_goals go_enter Tryd.func106, Tryd.ntmps106
    all_goals go_wp2_with (go_at_call 124; refine (dist_any _ _ _ hd2 _).mono ?_; rintro e w' ⟨rfl, rfl⟩)
    all_goals go_ret
    all_goals exact ⟨ret_int HE.out.symm, eal (eal (eal (Ext.refl _) _) _) _⟩
  have hb' : decide (10000 < t) = false := decide_eq_false hb
  have k2 : (t < 0 ∧ max t 0 = 0) ∨ (0 ≤ t ∧ max t 0 = t) := by omega
  by_cases hf : dstV (max t 0) dec delay ≤ roomV d t dec
  · have HNT : Hid (¬ noTow d t dec delay) := fun h => by unfold noTow at h; omega
    rcases k1 with ⟨k1, e1⟩ | ⟨k1, e1⟩
    all_goals rcases k2 with ⟨k2, e2⟩ | ⟨k2, e2⟩
    all_goals
      rw [e1, e2] at hf
      have E1 := Lib.hid e1
      have E2 := Lib.hid e2
      have hf' := decide_eq_true hf
      have HF := Lib.hid hf
      clear e1 e2 hf
      go_enter Tryd.func106, Tryd.ntmps106
      go_wp2_with (go_at_call 124; refine (dist_any _ _ _ hd2 _).mono ?_; rintro e w' ⟨rfl, rfl⟩)
    all_goals
      have HC1 : Hid (∀ (o1 o2 : Obj), (((w.alloc (.cells #[.int .i64 dec] 3)).alloc o1).alloc o2).cell? ⟨w.heap.size, 0, none⟩ = some (.int .i64 dec)) := fun o1 o2 => (((CellsAt.new (w := w) (cs := #[.int .i64 dec]) (t := 3) rfl).alloc o1).alloc o2).2 0 _ rfl
      have HC2 : Hid (∀ (o1 o2 : Obj), (((w.alloc o1).alloc (.cells #[.int .i64 delay] 3)).alloc o2).cell? ⟨w.heap.size + 1, 0, none⟩ = some (.int .i64 delay)) := fun o1 o2 => ((CellsAt.new (w := w.alloc o1) (cs := #[.int .i64 delay]) (t := 3) (by simp)).alloc o2).2 0 _ rfl
      have HC3 : Hid (∀ (o1 o2 : Obj) (r : Int), (((w.alloc o1).alloc o2).alloc (.cells #[.int .i64 r] 3)).cell? ⟨w.heap.size + 1 + 1, 0, none⟩ = some (.int .i64 r)) := fun o1 o2 r => (CellsAt.new (w := (w.alloc o1).alloc o2) (cs := #[.int .i64 r]) (t := 3) (by simp)).2 0 _ rfl
      refine (to_after (fits_any _ dec delay _ w.heap.size (w.heap.size + 1) (w.heap.size + 1 + 1) hd2 _ (HC1.out _ _) (HC2.out _ _) (HC3.out _ _ _) (by simp; omega) (by simp) (by simp))).mono ?_
      rintro e w' ⟨y, rfl, rfl⟩
      rw [hf']
      go_wp2
      have HYC : Hid (y.val.cell? ⟨w.heap.size, 0, none⟩ = some (.int .i64 dec) ∧ y.val.cell? ⟨w.heap.size + 1, 0, none⟩ = some (.int .i64 delay) ∧ y.val.cell? ⟨w.heap.size + 1 + 1, 0, none⟩ = some (.int .i64 (roomV d t dec)) ∧ w.heap.size + 1 + 1 < y.val.heap.size) := by
        show _ ∧ _
        rw [E1.out]
        exact ⟨(y.cell _ _ (by simp; omega)).trans (HC1.out _ _), (y.cell _ _ (by simp)).trans (HC2.out _ _), (y.cell _ _ (by simp)).trans (HC3.out _ _ _), by have := y.is.size; simp at this; omega⟩
      have HY := Lib.hid (etr (eal (eal (eal (Ext.refl w) _) _) _) y.is)
      have hf3 : dstV (max t 0) dec delay ≤ roomV d t dec := by rw [E1.out, E2.out]; exact HF.out
      have HF3 := Lib.hid hf3
      clear hf3 hf'
      obtain ⟨wy, hwy⟩ : ∃ wy, wy = y.val := ⟨_, rfl⟩
      rw [← hwy] at HYC HY ⊢
      clear hwy HC1 HC2 HC3
      go_loopg [11, 12] 10000 (fun g lo hi wr => ∃ (l h : Int), (h - l).toNat ≤ g ∧ lo = .int .i64 l ∧ hi = .int .i64 h ∧ 0 ≤ l ∧ max t 0 ≤ l ∧ l ≤ h ∧ h ≤ 10000 ∧ Hid (Ext wy wr ∧ dstV l dec delay ≤ roomV d t dec ∧ (h = 10000 ∨ roomV d t dec < dstV (h + 1) dec delay)))
    all_goals first
      | (case atStart => exact ⟨_, 10000, by omega, rfl, rfl, by omega, by have := E2.out; omega, by omega, by omega, Ext.refl _, by rw [E1.out]; exact HF.out, .inl rfl⟩)
      | skip
    all_goals
      obtain ⟨l, h, hg, rfl, rfl, h0, h1, h2, h3, H⟩ := hrel
      have HG := Lib.hid hg
      clear hg
      by_cases hlt : l < h
      · have hsz := H.out.1.size
        have q1 := (H.out.1.cell (p := ⟨w.heap.size, 0, none⟩) (by have := HYC.out.2.2.2; show w.heap.size < _; omega)).trans HYC.out.1
        have q2 := (H.out.1.cell (p := ⟨w.heap.size + 1, 0, none⟩) (by have := HYC.out.2.2.2; show w.heap.size + 1 < _; omega)).trans HYC.out.2.1
        have q3 := (H.out.1.cell (p := ⟨w.heap.size + 1 + 1, 0, none⟩) HYC.out.2.2.2).trans HYC.out.2.2.1
        have qz : w.heap.size + 1 + 1 < wr.heap.size := by have := HYC.out.2.2.2; omega
        have Q1 := Lib.hid q1
        have Q2 := Lib.hid q2
        have Q3 := Lib.hid q3
        clear q1 q2 q3
        by_cases hm : dstV ((l + h + 1) / 2) dec delay ≤ roomV d t dec
        · have HM := Lib.hid hm
          have HM2 := Lib.hid (decide_eq_true hm)
          clear hm
          go_wp2_with fail
          refine (to_after (fits_any _ dec delay _ w.heap.size (w.heap.size + 1) (w.heap.size + 1 + 1) hd2 _ Q1.out Q2.out Q3.out (by omega) (by omega) qz)).mono ?_
          rintro e w' ⟨y2, rfl, rfl⟩
          rw [HM2.out]
          go_wp2
          go_roundg (h - (l + h + 1) / 2).toNat
          case measure => have := HG.out; omega
          case rel => exact ⟨_, _, Nat.le_refl _, rfl, rfl, by omega, by omega, by omega, by omega, etr H.out.1 y2.is, HM.out, H.out.2.2⟩
        · have hm' : roomV d t dec < dstV ((l + h + 1) / 2) dec delay := by omega
          have HM := Lib.hid hm'
          have HM2 := Lib.hid (decide_eq_false hm)
          clear hm hm'
          go_wp2_with fail
          refine (to_after (fits_any _ dec delay _ w.heap.size (w.heap.size + 1) (w.heap.size + 1 + 1) hd2 _ Q1.out Q2.out Q3.out (by omega) (by omega) qz)).mono ?_
          rintro e w' ⟨y2, rfl, rfl⟩
          rw [HM2.out]
          go_wp2
          go_roundg ((l + h + 1) / 2 - 1 - l).toNat
          case measure => have := HG.out; omega
          case rel => exact ⟨_, _, Nat.le_refl _, rfl, rfl, by omega, by omega, by omega, by omega, etr H.out.1 y2.is, H.out.2.1, .inr (by have := HM.out; rwa [Int.sub_add_cancel])⟩
      · have hle : h = l := by omega
        have HR : Hid (l = towV d t dec delay) := by
          refine IsTow.tow ⟨fun hh => absurd hh HNT.out, fun _ => ⟨h1, by omega, H.out.2.1, ?_⟩⟩
          have := H.out.2.2
          rwa [hle] at this
        clear hle
        go_wp2
        go_ret
        exact ⟨ret_int HR.out, etr HY.out H.out.1⟩
  · have HE := Lib.hid (tow_no (d := d) (t := t) (dec := dec) (delay := delay) (.inr (.inr (.inr (by omega)))))
    rcases k1 with ⟨k1, e1⟩ | ⟨k1, e1⟩
    all_goals rcases k2 with ⟨k2, e2⟩ | ⟨k2, e2⟩
    all_goals
      rw [e1, e2] at hf
      have HF := Lib.hid (decide_eq_false hf)
      clear e1 e2 hf
      go_enter Tryd.func106, Tryd.ntmps106
      go_wp2_with (go_at_call 124; refine (dist_any _ _ _ hd2 _).mono ?_; rintro e w' ⟨rfl, rfl⟩)
    all_goals
      have HC1 : Hid (∀ (o1 o2 : Obj), (((w.alloc (.cells #[.int .i64 dec] 3)).alloc o1).alloc o2).cell? ⟨w.heap.size, 0, none⟩ = some (.int .i64 dec)) := fun o1 o2 => (((CellsAt.new (w := w) (cs := #[.int .i64 dec]) (t := 3) rfl).alloc o1).alloc o2).2 0 _ rfl
      have HC2 : Hid (∀ (o1 o2 : Obj), (((w.alloc o1).alloc (.cells #[.int .i64 delay] 3)).alloc o2).cell? ⟨w.heap.size + 1, 0, none⟩ = some (.int .i64 delay)) := fun o1 o2 => ((CellsAt.new (w := w.alloc o1) (cs := #[.int .i64 delay]) (t := 3) (by simp)).alloc o2).2 0 _ rfl
      have HC3 : Hid (∀ (o1 o2 : Obj) (r : Int), (((w.alloc o1).alloc o2).alloc (.cells #[.int .i64 r] 3)).cell? ⟨w.heap.size + 1 + 1, 0, none⟩ = some (.int .i64 r)) := fun o1 o2 r => (CellsAt.new (w := (w.alloc o1).alloc o2) (cs := #[.int .i64 r]) (t := 3) (by simp)).2 0 _ rfl
      refine (to_after (fits_any _ dec delay _ w.heap.size (w.heap.size + 1) (w.heap.size + 1 + 1) hd2 _ (HC1.out _ _) (HC2.out _ _) (HC3.out _ _ _) (by simp; omega) (by simp) (by simp))).mono ?_
      rintro e w' ⟨y, rfl, rfl⟩
      rw [HF.out]
      go_wp2
      go_ret
      exact ⟨ret_int HE.out.symm, etr (eal (eal (eal (Ext.refl w) _) _) _) y.is⟩
set_option maxHeartbeats 8000000 in
theorem rtoward_any (d t dec delay : Int) (hd2 : dec ≤ 9223372036854775807) (w : World) : Calls Tryd.prog 114 #[.int .i64 d, .int .i64 t, .int .i64 dec, .int .i64 delay] w fun e w' => e = .returned (.int .i64 (towV d t dec delay)) ∧ w = w' := by
  by_cases hd : d < 0
  · have HE := Lib.hid (tow_no (d := d) (t := t) (dec := dec) (delay := delay) (.inl hd))
    go_enter Tryd.func114, Tryd.ntmps114
    go_wp2
    go_ret
    exact ⟨ret_int HE.out.symm, rfl⟩
  have hd' : decide (d < 0) = false := decide_eq_false hd
  by_cases hc : dec < 1
  · have HE := Lib.hid (tow_no (d := d) (t := t) (dec := dec) (delay := delay) (.inr (.inl hc)))
    go_enter Tryd.func114, Tryd.ntmps114
    go_wp2
    go_ret
    exact ⟨ret_int HE.out.symm, rfl⟩
  have hc' : decide (dec < 1) = false := decide_eq_false hc
  by_cases hb : 10000 ≤ t
  · have HE : Hid (towV d t dec delay = t) := by
      by_cases hn : noTow d t dec delay
      · exact tow_no hn
      · have h1 := towV_ge d t dec delay
        have h2 := ((towV_is d t dec delay).2 hn).2.1
        show _ = _; omega
    go_enter Tryd.func114, Tryd.ntmps114
    go_wp2
    go_ret
    exact ⟨ret_int HE.out.symm, rfl⟩
  have hb' : decide (10000 ≤ t) = false := decide_eq_false hb
  obtain ⟨t1, t2⟩ := dstV_bd t dec 0
  have k1 : (d ≤ 1073741824 ∧ roomV d t dec = d + dstV t dec 0) ∨ (1073741824 < d ∧ roomV d t dec = 1073741824 + dstV t dec 0) := by unfold roomV; omega
  have k2 : (t < 0 ∧ max t 0 = 0) ∨ (0 ≤ t ∧ max t 0 = t) := by omega
  by_cases hf : dstV (max t 0) dec delay ≤ roomV d t dec
  · have HNT : Hid (¬ noTow d t dec delay) := fun h => by unfold noTow at h; omega
    rcases k1 with ⟨k1, e1⟩ | ⟨k1, e1⟩
    all_goals rcases k2 with ⟨k2, e2⟩ | ⟨k2, e2⟩
    all_goals
      have HF3 := Lib.hid hf
      have E1 := Lib.hid e1
      rw [e1, e2] at hf
      have hf' := decide_eq_false (show ¬ _ < _ from Int.not_lt.2 hf)
      have HF := Lib.hid hf
      have hm1 := max t 0
      clear e1 hf hm1
      go_enter Tryd.func114, Tryd.ntmps114
      go_wp2_with (go_at_call 79; refine (rdist_any _ _ _ hd2 _).mono ?_; rintro e w' ⟨rfl, rfl⟩)
      rw [← E1.out] at *
      go_loopg [10, 11] 10001 (fun g lo hi wr => ∃ (l h : Int), w = wr ∧ (h - l).toNat ≤ g ∧ lo = .int .i64 l ∧ hi = .int .i64 h ∧ 0 ≤ l ∧ max t 0 ≤ l ∧ l + 1 ≤ h ∧ h ≤ 10001 ∧ Hid (dstV l dec delay ≤ roomV d t dec ∧ (h = 10001 ∨ roomV d t dec < dstV h dec delay)))
    all_goals first
      | (case atStart => exact ⟨_, 10001, rfl, by omega, rfl, rfl, by omega, by omega, by omega, by omega, by have := HF3.out; rwa [e2] at this, .inl rfl⟩)
      | skip
    all_goals
      obtain ⟨l, h, rfl, hg, rfl, rfl, h0, h1, h2, h3, H⟩ := hrel
      have HG := Lib.hid hg
      have HE2 := Lib.hid e2
      clear hg e2
      obtain ⟨b1, b2⟩ := dstV_bd ((l + h) / 2) dec delay
      by_cases hlt : 1 < h - l
      · by_cases hm : dstV ((l + h) / 2) dec delay ≤ roomV d t dec
        · have HM := Lib.hid hm
          go_wp2_with (go_at_call 79; refine (rdist_any _ _ _ hd2 _).mono ?_; rintro e w' ⟨rfl, rfl⟩)
          go_roundg (h - (l + h) / 2).toNat
          case measure => have := HG.out; omega
          case rel => exact ⟨_, _, rfl, Nat.le_refl _, rfl, rfl, by omega, by omega, by omega, by omega, HM.out, H.out.2⟩
        · have hm' : decide (dstV ((l + h) / 2) dec delay ≤ roomV d t dec) = false := decide_eq_false hm
          have HM := Lib.hid (show roomV d t dec < dstV ((l + h) / 2) dec delay by omega)
          clear hm
          go_wp2_with (go_at_call 79; refine (rdist_any _ _ _ hd2 _).mono ?_; rintro e w' ⟨rfl, rfl⟩)
          go_roundg ((l + h) / 2 - l).toNat
          case measure => have := HG.out; omega
          case rel => exact ⟨_, _, rfl, Nat.le_refl _, rfl, rfl, by omega, by omega, by omega, by omega, H.out.1, .inr HM.out⟩
      · have HR : Hid (l = towV d t dec delay) := by
          refine IsTow.tow ⟨fun hh => absurd hh HNT.out, fun _ => ⟨h1, by omega, H.out.1, ?_⟩⟩
          rcases H.out.2 with k | k
          · exact .inl (by omega)
          · right; rwa [show l + 1 = h by omega]
        have hlt' : decide (1 < h - l) = false := decide_eq_false hlt
        go_wp2
        go_ret
        exact ⟨ret_int HR.out, rfl⟩
  · have HE := Lib.hid (tow_no (d := d) (t := t) (dec := dec) (delay := delay) (.inr (.inr (.inr (by omega)))))
    rcases k1 with ⟨k1, e1⟩ | ⟨k1, e1⟩
    all_goals rcases k2 with ⟨k2, e2⟩ | ⟨k2, e2⟩
    all_goals
      rw [e1, e2] at hf
      have hf' : _ < _ := Int.not_le.1 hf
      clear e1 e2 hf
      go_enter Tryd.func114, Tryd.ntmps114
      go_wp2_with (go_at_call 79; refine (rdist_any _ _ _ hd2 _).mono ?_; rintro e w' ⟨rfl, rfl⟩)
      go_ret
      exact ⟨ret_int HE.out.symm, rfl⟩
end Go.Proofs.YtbgmknkmfhpgeaaDoor

set_option linter.unusedVariables false
set_option linter.unusedSimpArgs false
namespace Go.Proofs.YtbgmknkmfhpgeaaDoor
open Go.ChangeShapes Go.WideShapes Go.ChangeAt Go.RowKit
open Sg

def Inc (n : Int) : List Value := [.int .i64 n]
theorem Inc_len (n : Int) : (Inc n).length = 1 := rfl
theorem Inc_one (n : Int) : ∀ u ∈ Inc n, u.oneCell' = true := by intro u hu; simp [Inc] at hu; subst hu; rfl
theorem rd_int {w wr : World} {A : Option Addr} {xs : List Int} {k : Nat} (h : Rd w A 1 Inc xs) (hb : Ext w wr) (hk : k < xs.length) : ∃ b off n, A = some ⟨b, off, none⟩ ∧ xs[k]? = some n ∧ b < wr.heap.size ∧ wr.cell? ⟨b, off + k, none⟩ = some (.int .i64 n) := by
  obtain ⟨b, off, rfl, h1, h2⟩ := h.keep hb (by omega)
  obtain ⟨s, hs⟩ : ∃ s, xs[k]? = some s := ⟨_, List.getElem?_eq_getElem hk⟩
  have := h2 k s hs 0 _ rfl
  exact ⟨b, off, s, rfl, hs, h1, by simpa using this⟩
theorem minL_take {l : List Int} {k : Nat} {n : Int} (a : Int) (h : l[k]? = some n) : minL a (l.take (k + 1)) = min (minL a (l.take k)) n := by
  obtain ⟨hl, rfl⟩ := List.getElem?_eq_some_iff.1 h
  rw [List.take_succ_eq_append_getElem hl, minL_snoc]
set_option maxHeartbeats 4000000 in
theorem least_any (a : Int) (A : Option Addr) (xs : List Int) (cap : Nat) (w : World) (hm : xs.length ≤ maxLen) (hr : Rd w A 1 Inc xs) :
    Calls Tryd.prog 108 #[.int .i64 a, .slice A xs.length cap] w fun e w' => e = .returned (.int .i64 (minL a xs)) ∧ w = w' := by
  unfold maxLen at hm
  have HR := Lib.hid hr
  clear hr
  go_enter Tryd.func108, Tryd.ntmps108
  go_wp2
  go_loopg [0, 9] xs.length (fun g f i wr => ∃ (k : Nat) (m : Int), i = .int .i64 k ∧ k ≤ xs.length ∧ g = xs.length - k ∧ w = wr ∧ f = .int .i64 m ∧ Hid (m = minL a (xs.take k)))
  case atStart => exact ⟨0, a, rfl, by omega, rfl, rfl, rfl, rfl⟩
  case round =>
    obtain ⟨k, m, rfl, hk, hg, rfl, rfl, H⟩ := hrel
    have HG := Lib.hid hg
    clear hg
    by_cases hlt : k < xs.length
    · obtain ⟨b, off, n, rfl, hs, hbs, c0⟩ := rd_int HR.out (Ext.refl _) hlt
      have HT := Lib.hid (minL_take a hs)
      clear hs
      by_cases hc : n < m
      · go_wp2
        go_roundg (xs.length - (k + 1))
        case measure => have := HG.out; omega
        case rel => exact ⟨k + 1, _, by go_num, by omega, rfl, rfl, rfl, by have := H.out; show n = _; rw [HT.out]; omega⟩
      · have hc' : decide (n < m) = false := decide_eq_false hc
        go_wp2
        go_roundg (xs.length - (k + 1))
        case measure => have := HG.out; omega
        case rel => exact ⟨k + 1, _, by go_num, by omega, rfl, rfl, rfl, by have := H.out; show m = _; rw [HT.out]; omega⟩
    · have HE : Hid (m = minL a xs) := by have := H.out; rwa [List.take_of_length_le (by omega)] at this
      go_wp2
      go_ret
      exact ⟨ret_int HE.out, rfl⟩
set_option maxHeartbeats 4000000 in
theorem ceil_any (T : Tr) (E : Es) (A : Option Addr) (p : List Sgm) (cap : Nat) (w : World) (hm : p.length ≤ maxLen) (h1 : -4294967296 ≤ E.min ∧ E.min ≤ 4294967296) (h2 : 0 ≤ T.len ∧ T.len ≤ 4294967296) (hr : Rd w A 4 Sgc p) :
    Calls Tryd.prog 109 #[.agg #[.int .i64 T.id, .string T.name, .int .i64 T.len, .int .i64 T.speed, .int .i64 T.accel, .int .i64 T.service, .int .i64 T.emergency, .int .i64 T.delay, .int .i64 T.cons, .int .i64 T.rate], .slice A p.length cap, .agg #[.int .i64 E.min, .int .i64 E.max, .int .i64 E.speed]] w fun e w' => e = .returned (.int .i64 (ceilV T p E)) ∧ Below w.heap.size w w' := by
  have HR := Lib.hid hr
  have HM := Lib.hid hm
  have n1 : IntKind.i64.wrap (E.min - T.len) = E.min - T.len := IntWalk.i64_in _ (by omega)
  clear hr hm
  go_enter Tryd.func109, Tryd.ntmps109
  go_wp2_with fail
  have HB0 := Lib.hid (eal (eal (Ext.refl w) (.cells ([.int .i64 T.id, .string T.name, .int .i64 T.len, .int .i64 T.speed, .int .i64 T.accel, .int .i64 T.service, .int .i64 T.emergency, .int .i64 T.delay, .int .i64 T.cons, .int .i64 T.rate]).toArray 23)) (.cells ([.int .i64 E.min, .int .i64 E.max, .int .i64 E.speed]).toArray 25))
  refine wp_region_mono [0, 1, 2, 3, 4, 5, 6, 7, 8, 9, 10] 3 (by kernel_rfl) (by kernel_rfl) (fun _ _ d _ _ h => by cases d <;> exact h) (by kernel_rfl) (by kernel_rfl) ?_
  repeat (refine wpE_step rfl (fun K hK => ?_); go_simp; (first
    | (refine hK _ ?_; clear hK K)
    | (apply Exists.intro
       refine ⟨fun x => ?_, hK _ ?_⟩
       (go_at_call 126; exact slowest_any _ p cap _ _ _ HM.out (HR.out.keep (etr HB0.out x.is)))
       clear hK K)))
  refine wpE_nil ?_
  intro x
  refine wpAnyR_ready (rs := [11]) (by kernel_rfl) (by simp) (AllR.cons rfl (fun K hK => ?_) AllR.nil)
  go_simp
  refine hK _ _ (eal (Ext.refl _) _) (fun z => ?_)
  clear hK K
  have HRz : Hid (Rd z.val (some ⟨x.val.heap.size, 0, none⟩) 1 Inc [slowV p (E.min - T.len) E.max]) := (rd_cells (xs := [slowV p (E.min - T.len) E.max]) Inc_len (CellsAt.new rfl)).keep z.is
  refine wpAnyR_more [12, 13] (fuel := 0) (by kernel_rfl) (fun _ _ d _ _ h => by cases d <;> exact h) (by kernel_rfl) rfl ?_
  repeat (refine wpE_step rfl (fun K hK => ?_); go_simp; (first
    | (refine hK _ ?_; clear hK K)
    | (apply Exists.intro
       refine ⟨fun x => ?_, hK _ ?_⟩
       (go_at_call 108; exact (least_any T.speed _ [slowV p (E.min - T.len) E.max] 1 _ (by unfold maxLen; simp) (HRz.out.keep x.is)).mono (fun e w' ⟨h1, h2⟩ => ⟨h1, by subst h2; exact Ext.refl _⟩))
       clear hK K)))
  refine wpE_nil ?_
  intro z9
  refine wpAnyR_done (by kernel_rfl) ?_ _
  go_wp2
  go_ret
  exact ⟨rfl, etr (etr (eal (etr HB0.out x.is) _) z.is) z9.is⟩
set_option maxHeartbeats 4000000 in
theorem rceil_any (T : Tr) (E : Es) (A : Option Addr) (p : List Sgm) (cap : Nat) (w : World) (hm : p.length ≤ 1000000) (h1 : -4294967296 ≤ E.min ∧ E.min ≤ 4294967296) (h2 : 0 ≤ T.len ∧ T.len ≤ 4294967296) (hr : Rd w A 4 Sgc p) :
    Calls Tryd.prog 112 #[.agg #[.int .i64 T.id, .string T.name, .int .i64 T.len, .int .i64 T.speed, .int .i64 T.accel, .int .i64 T.service, .int .i64 T.emergency, .int .i64 T.delay, .int .i64 T.cons, .int .i64 T.rate], .slice A p.length cap, .agg #[.int .i64 E.min, .int .i64 E.max, .int .i64 E.speed]] w fun e w' => e = .returned (.int .i64 (ceilV T p E)) ∧ Below w.heap.size w w' := by
  have HR := Lib.hid hr
  have n1 : IntKind.i64.wrap (E.min - T.len) = E.min - T.len := IntWalk.i64_in _ (by omega)
  have HE : Hid (ceilV T p E = min T.speed (slowV p (E.min - T.len) E.max)) := rfl
  clear hr
  have HB0 := Lib.hid (eal (eal (Ext.refl w) (.cells ([.int .i64 T.id, .string T.name, .int .i64 T.len, .int .i64 T.speed, .int .i64 T.accel, .int .i64 T.service, .int .i64 T.emergency, .int .i64 T.delay, .int .i64 T.cons, .int .i64 T.rate]).toArray 23)) (.cells ([.int .i64 E.min, .int .i64 E.max, .int .i64 E.speed]).toArray 25))
  by_cases hc : T.speed ≤ slowV p (E.min - T.len) E.max
  all_goals
    try have hc' : slowV p (E.min - T.len) E.max < T.speed := by omega
    go_enter Tryd.func112, Tryd.ntmps112
    go_wp2_with fail
    refine wp_region_after (by kernel_rfl) (by kernel_rfl) ?_
    repeat (first | go_big_quiet_step ((go_at_call 129; exact after_call _ (rslow_any _ p cap _ _ _ hm (HR.out.keep (eafter HB0.out _))))))
    refine wpQuiet_nil ?_
    rintro _ ⟨y, rfl⟩
    go_wp2
    go_ret
    exact ⟨ret_int (by rw [HE.out]; omega), eafter HB0.out y⟩
end Go.Proofs.YtbgmknkmfhpgeaaDoor

set_option linter.unusedVariables false
set_option linter.unusedSimpArgs false
namespace Go.Proofs.YtbgmknkmfhpgeaaDoor
open Go.ChangeShapes Go.WideShapes Go.ChangeAt Go.RowKit
open Sg

theorem inf_int : (Tryd.prog.info? 3).map (fun i => (i.zero, i.size, i.bytes)) = some (some (.int .i64 0), 1, 8) := by kernel_rfl
theorem ahdL_take {p : List Sgm} {k : Nat} {s : Sgm} (dec delay m : Int) (h : p[k]? = some s) : ahdL dec delay m (p.take (k + 1)) = ahdL dec delay m (p.take k) ++ (if m < s.from_ then [towV (s.from_ - m) s.speed dec delay] else []) := by
  unfold ahdL
  rw [filter_take h, List.map_append]
  congr 1
  by_cases c : m < s.from_
  · rw [if_pos (show pastB m s = true from decide_eq_true c), if_pos c]; rfl
  · rw [if_neg (show ¬ pastB m s = true from fun h => c (of_decide_eq_true h)), if_neg c]; rfl
theorem ahdL_len (dec delay m : Int) (p : List Sgm) : (ahdL dec delay m p).length ≤ p.length := by unfold ahdL; rw [List.length_map]; exact List.length_filter_le _ _
theorem seg_in {p : List Sgm} (hv : validB p = true) {k : Nat} {s : Sgm} (hs : p[k]? = some s) : SegOk s := by
  obtain ⟨b, hb⟩ := ch_of (validB_true.1 hv)
  obtain ⟨hl, rfl⟩ := List.getElem?_eq_some_iff.1 hs
  exact hb.ok _ (List.getElem_mem hl)
/-- The three arguments, boxed one behind the other. -/
def boxW (w : World) (T : Tr) (au : List Value) (E : Es) : World := ((w.alloc (.cells ([.int .i64 T.id, .string T.name, .int .i64 T.len, .int .i64 T.speed, .int .i64 T.accel, .int .i64 T.service, .int .i64 T.emergency, .int .i64 T.delay, .int .i64 T.cons, .int .i64 T.rate]).toArray 23)).alloc (.cells au.toArray 29)).alloc (.cells ([.int .i64 E.min, .int .i64 E.max, .int .i64 E.speed]).toArray 25)
structure Boxed (w wr : World) (T : Tr) (au : List Value) (E : Es) : Prop where
  t : CellsAt wr w.heap.size ([.int .i64 T.id, .string T.name, .int .i64 T.len, .int .i64 T.speed, .int .i64 T.accel, .int .i64 T.service, .int .i64 T.emergency, .int .i64 T.delay, .int .i64 T.cons, .int .i64 T.rate])
  a : CellsAt wr (w.heap.size + 1) au
  e : CellsAt wr (w.heap.size + 1 + 1) ([.int .i64 E.min, .int .i64 E.max, .int .i64 E.speed])
theorem Boxed.mk' (w : World) (T : Tr) (au : List Value) (E : Es) : Boxed w (boxW w T au E) T au E :=
  ⟨((CellsAt.new rfl).alloc _).alloc _, (CellsAt.new (by simp)).alloc _, CellsAt.new (by simp)⟩
theorem Boxed.keep {w wr wr' : World} {T : Tr} {au : List Value} {E : Es} (h : Boxed w wr T au E) (g : Ext wr wr') : Boxed w wr' T au E := ⟨h.t.keep g, h.a.keep g, h.e.keep g⟩
theorem boxW_ext (w : World) (T : Tr) (au : List Value) (E : Es) : Ext w (boxW w T au E) := eal (eal (eal (Ext.refl _) _) _) _
theorem decV_le (T : Tr) (p : List Sgm) (E : Es) (en : Int) : decV T p E en ≤ 9223372036854775807 := by have := (effV_bd T.service (steepV p E.min en)).2; unfold decV; omega
structure NearB (T : Tr) (E : Es) (en : Int) : Prop where
  e1 : -4294967296 ≤ E.min ∧ E.min ≤ 4294967296
  e2 : -4294967296 ≤ E.max ∧ E.max ≤ 4294967296
  e3 : -4294967296 ≤ en ∧ en ≤ 4294967296
  t : 0 ≤ T.len ∧ T.len ≤ 4294967296
theorem least_one (a x : Int) (t : TypeId) (w : World) :
    Calls Tryd.prog 108 #[.int .i64 a, .slice (some ⟨w.heap.size, 0, none⟩) 1 1] (w.alloc (.cells #[.int .i64 x] t)) fun e w' => e = .returned (.int .i64 (min a x)) ∧ w.alloc (.cells #[.int .i64 x] t) = w' :=
  least_any a (some ⟨w.heap.size, 0, none⟩) [x] 1 _ (by unfold maxLen; simp) (rd_cells (xs := [x]) Inc_len (CellsAt.new rfl))
set_option maxHeartbeats 8000000 in
theorem perm_any (T : Tr) (E : Es) (sq en : Int) (A LA : Option Addr) (p : List Sgm) (cap ln lc : Nat) (w : World) (hm : p.length ≤ 1000000) (hn : NearB T E en) (hr : Rd w A 4 Sgc p) :
    Calls Tryd.prog 76 #[.agg #[.int .i64 T.id, .string T.name, .int .i64 T.len, .int .i64 T.speed, .int .i64 T.accel, .int .i64 T.service, .int .i64 T.emergency, .int .i64 T.delay, .int .i64 T.cons, .int .i64 T.rate], .agg #[.int .i64 sq, .int .i64 en, .slice A p.length cap, .slice LA ln lc], .agg #[.int .i64 E.min, .int .i64 E.max, .int .i64 E.speed]] w fun e w' => e = .returned (.int .i64 (permV T p E en)) ∧ Below w.heap.size w w' := by
  have HR := Lib.hid hr
  have HM : Hid (p.length ≤ maxLen) := by show _ ≤ _; unfold maxLen; omega
  have HN := Lib.hid hn
  obtain ⟨i0, hi, hz0, hz1, hz2⟩ := info_parts inf_int
  obtain ⟨⟨m1, m2⟩, ⟨m3, m4⟩, ⟨m5, m6⟩, _⟩ := hn
  clear hr
  have HBX := Lib.hid (Boxed.mk' w T [.int .i64 sq, .int .i64 en, .slice A p.length cap, .slice LA ln lc] E)
  have HEX := Lib.hid (boxW_ext w T [.int .i64 sq, .int .i64 en, .slice A p.length cap, .slice LA ln lc] E)
  cases hv : validB p with
  | false =>
    have HE : Hid (permV T p E en = 0) := by show _ = _; rw [permV, hv]; rfl
    go_enter Tryd.func76, Tryd.ntmps76
    go_wp2_with (go_at_call 103; refine (to_after (valid_any A p cap _ HM.out (HR.out.keep HEX.out))).mono ?_; rintro e w' ⟨y, rfl, rfl⟩)
    go_ret
    exact ⟨ret_int HE.out.symm, eafter HEX.out y⟩
  | true =>
    have HE : Hid (permV T p E en = minL (min (ceilV T p E) (stopV T (decV T p E en) E en)) (ahdL (decV T p E en) T.delay E.max p)) := by show _ = _; rw [permV, if_pos hv]
    have HV := Lib.hid hv
    have HD : Hid (decV T p E en = effV T.service (steepV p E.min en)) := rfl
    clear hv
    go_enter Tryd.func76, Tryd.ntmps76
    go_wp2_with fail
    refine (to_after (valid_any A p cap _ HM.out (HR.out.keep HEX.out))).mono ?_
    rintro e w' ⟨y, rfl, rfl⟩
    rw [HV.out]
    go_wp2_with fail
    have HB1 := HBX.out
    have zt := HB1.t.1
    have za := HB1.a.1
    have ze := HB1.e.1
    have b0 := HB1.t.2 5 _ rfl
    have b1 := HB1.a.2 2 _ rfl
    have b2 := HB1.a.2 1 _ rfl
    have b3 := HB1.e.2 0 _ rfl
    clear HB1
    refine wp_region_in y (by kernel_rfl) (by kernel_rfl) ?_
    repeat (first | go_big_quiet_step ((first
      | (go_at_call 105; exact after_call _ (steepest_any _ p cap _ _ _ HM.out (HR.out.keep (eafter HEX.out _))))
      | (go_at_call 104; exact after_same _ (eff_any _ _ _)))))
    refine wpQuiet_nil ?_
    rintro _ ⟨y2, rfl⟩
    rw [← HD.out]
    have HX2 := Lib.hid (eafter HEX.out y2)
    have HB2 := Lib.hid (HBX.out.keep y2.is)
    obtain ⟨wl, hwl⟩ : ∃ wl, wl = y2.val := ⟨_, rfl⟩
    rw [← hwl] at HX2 HB2 ⊢
    clear hwl zt za ze b0 b1 b2 b3
    have qa := HB2.out.a.2 2 _ rfl
    have qz := HB2.out.a.1
    obtain ⟨dec, hdec⟩ : ∃ dec, dec = decV T p E en := ⟨_, rfl⟩
    rw [← hdec] at HE ⊢
    have hdl : dec ≤ 9223372036854775807 := by rw [hdec]; exact decV_le _ _ _ _
    clear hdec HD
    go_wp2
    go_loopg [8, 29] p.length (fun g u i wr => ∃ k : Nat, i = .int .i64 k ∧ k ≤ p.length ∧ g = p.length - k ∧ Hid (Ext wl wr ∧ OwnL wr wl.heap.size 3 1 Inc u (ahdL dec T.delay E.max (p.take k))))
    case atStart => exact ⟨0, rfl, by omega, rfl, Ext.refl _, OwnL.nil⟩
    case round =>
      obtain ⟨k, rfl, hk, hg, H⟩ := hrel
      have HG := Lib.hid hg
      clear hg qa qz
      have HB3 := HB2.out.keep H.out.1
      have t3 := HB3.t.1
      have t4 := HB3.a.1
      have t5 := HB3.e.1
      by_cases hlt : k < p.length
      · obtain ⟨b, off, s, rfl, hs, hbs, c0, c1, c2, c3⟩ := rd_seg HR.out (etr HX2.out H.out.1) hlt
        have HT := Lib.hid (ahdL_take dec T.delay E.max hs)
        have hlen : (ahdL dec T.delay E.max (p.take k)).length ≤ k := by have := ahdL_len dec T.delay E.max (p.take k); simp at this; omega
        obtain ⟨s1, s2, s3, s4, s5, s6, s7⟩ := seg_in HV.out hs
        have f1 := HB3.e.2 1 _ rfl
        have f2 := HB3.t.2 7 _ rfl
        clear hs HB3
        by_cases hc : E.max < s.from_
        · have HQ : Hid (ahdL dec T.delay E.max (p.take (k + 1)) = ahdL dec T.delay E.max (p.take k) ++ [towV (s.from_ - E.max) s.speed dec T.delay]) := by show _ = _; rw [HT.out, if_pos hc]
          go_wp2_with (first
            | (go_at_call 106; refine (to_after (toward_any _ _ dec T.delay hdl _)).mono ?_; rintro e w' ⟨y5, rfl, rfl⟩)
            | (at_builtin
               refine wp_appE (u := wl) Inc_len Inc_one Tryd.underlying73 hi hz0 hz1 hz2 rfl (by decide) rfl rfl rfl (((H.out.2.keep (eal (Ext.refl _) _)).keep y5.is).keep (eal (Ext.refl _) _)) (eal (etr (eal H.out.1 _) y5.is) _) (towV (s.from_ - E.max) s.speed dec T.delay) y5.val.heap.size (by simp [go_sem]) (by exact CellsAt.new rfl) (by omega) (by unfold maxLen; omega) ?_
               intro v1 w1 H1))
          go_roundg (p.length - (k + 1))
          case measure => have := HG.out; omega
          case rel => exact ⟨k + 1, by go_num, by omega, rfl, H1.out.2.1, by rw [HQ.out]; exact H1.out.1⟩
        · have HQ : Hid (ahdL dec T.delay E.max (p.take (k + 1)) = ahdL dec T.delay E.max (p.take k)) := by show _ = _; rw [HT.out, if_neg hc, List.append_nil]
          have hc' : decide (E.max < s.from_) = false := decide_eq_false hc
          go_wp2
          go_roundg (p.length - (k + 1))
          case measure => have := HG.out; omega
          case rel => exact ⟨k + 1, by go_num, by omega, rfl, eal H.out.1 _, by rw [HQ.out]; exact H.out.2.keep (eal (Ext.refl _) _)⟩
      · have HQ : Hid (ahdL dec T.delay E.max (p.take k) = ahdL dec T.delay E.max p) := by show _ = _; rw [List.take_of_length_le (by omega)]
        have ho := H.out.2
        rw [HQ.out] at ho
        obtain ⟨A8, cap8, rfl, hr8, hm8⟩ := ho.rd Inc_len
        have HR8 := Lib.hid hr8
        have HM8 := Lib.hid hm8
        have f1 := HB3.e.2 1 _ rfl
        have f0 := HB3.e.2 0 _ rfl
        have f3 := HB3.e.2 2 _ rfl
        have f2 := HB3.t.2 7 _ rfl
        have a1 := HB3.a.2 1 _ rfl
        have a2 := HB3.a.2 2 _ rfl
        have u0 := HB3.t.2 0 _ rfl
        have u1 := HB3.t.2 1 _ rfl
        have u2 := HB3.t.2 2 _ rfl
        have u3 := HB3.t.2 3 _ rfl
        have u4 := HB3.t.2 4 _ rfl
        have u5 := HB3.t.2 5 _ rfl
        have u6 := HB3.t.2 6 _ rfl
        have u8 := HB3.t.2 8 _ rfl
        have u9 := HB3.t.2 9 _ rfl
        obtain ⟨v1, v2⟩ := spdV_bd (en - E.max) dec T.delay
        have kk : (spdV (en - E.max) dec T.delay ≤ 0 ∧ stopV T dec E en = 0) ∨ (0 < spdV (en - E.max) dec T.delay ∧ stopV T dec E en = spdV (en - E.max) dec T.delay) := by unfold stopV; omega
        clear ho hr8 hm8 HB3
        rcases kk with ⟨k1, k2⟩ | ⟨k1, k2⟩
        all_goals
          have HK := Lib.hid k2
          clear k2
          go_wp2_with (go_at_call 107; refine (speed_any _ _ _ hdl _).mono ?_; rintro e w' ⟨rfl, rfl⟩)
        all_goals
          refine (to_after (ceil_any T E A p cap _ HM.out HN.out.e1 HN.out.t (HR.out.keep (etr HX2.out H.out.1)))).mono ?_
          rintro e w' ⟨y6, rfl, rfl⟩
          go_wp2_with (first
            | (go_at_call 108; (with_reducible refine (least_one _ _ _ _).mono ?_); rintro e w' ⟨rfl, rfl⟩)
            | (go_at_call 108; (with_reducible refine (least_any _ A8 (ahdL dec T.delay E.max p) cap8 _ HM8.out (HR8.out.keep (eal y6.is _))).mono ?_); rintro e w' ⟨rfl, rfl⟩))
          go_ret
          exact ⟨ret_int (by rw [HE.out, HK.out]), eal (etr (etr HX2.out H.out.1) y6.is) _⟩
end Go.Proofs.YtbgmknkmfhpgeaaDoor

set_option linter.unusedVariables false
set_option linter.unusedSimpArgs false
namespace Go.Proofs.YtbgmknkmfhpgeaaDoor
open Go.ChangeShapes Go.WideShapes Go.ChangeAt Go.RowKit
open Sg

/-- The accumulator of the reference's loop. -/
noncomputable def accV (base dec delay m : Int) (p : List Sgm) : Int := minL base (ahdL dec delay m p)
theorem accV_take {p : List Sgm} {k : Nat} {s : Sgm} (base dec delay m : Int) (h : p[k]? = some s) : accV base dec delay m (p.take (k + 1)) = if m < s.from_ then min (accV base dec delay m (p.take k)) (towV (s.from_ - m) s.speed dec delay) else accV base dec delay m (p.take k) := by
  unfold accV
  rw [ahdL_take dec delay m h]
  by_cases c : m < s.from_
  · rw [if_pos c, if_pos c, minL_snoc]
  · rw [if_neg c, if_neg c, List.append_nil]
theorem accV_zero (base dec delay m : Int) (p : List Sgm) : accV base dec delay m (p.take 0) = base := rfl
set_option maxHeartbeats 16000000 in
theorem rperm_any (T : Tr) (E : Es) (sq en : Int) (A LA : Option Addr) (p : List Sgm) (cap ln lc : Nat) (w : World) (hm : p.length ≤ 1000000) (hn : NearB T E en) (hr : Rd w A 4 Sgc p) :
    Calls Tryd.prog 78 #[.agg #[.int .i64 T.id, .string T.name, .int .i64 T.len, .int .i64 T.speed, .int .i64 T.accel, .int .i64 T.service, .int .i64 T.emergency, .int .i64 T.delay, .int .i64 T.cons, .int .i64 T.rate], .agg #[.int .i64 sq, .int .i64 en, .slice A p.length cap, .slice LA ln lc], .agg #[.int .i64 E.min, .int .i64 E.max, .int .i64 E.speed]] w fun e w' => e = .returned (.int .i64 (permV T p E en)) ∧ Below w.heap.size w w' := by
  have HR := Lib.hid hr
  have HM : Hid (p.length ≤ maxLen) := by show _ ≤ _; unfold maxLen; omega
  have HM2 : Hid (p.length ≤ 1000000) := hm
  have HN := Lib.hid hn
  obtain ⟨⟨m1, m2⟩, ⟨m3, m4⟩, ⟨m5, m6⟩, _⟩ := hn
  have n1 : IntKind.i64.wrap (en - E.max) = en - E.max := IntWalk.i64_in _ (by omega)
  clear hr
  have HBX := Lib.hid (Boxed.mk' w T [.int .i64 sq, .int .i64 en, .slice A p.length cap, .slice LA ln lc] E)
  have HEX := Lib.hid (boxW_ext w T [.int .i64 sq, .int .i64 en, .slice A p.length cap, .slice LA ln lc] E)
  cases hv : validB p with
  | false =>
    have HE : Hid (permV T p E en = 0) := by show _ = _; rw [permV, hv]; rfl
    go_enter Tryd.func78, Tryd.ntmps78
    go_wp2_with (go_at_call 67; refine (to_after (rvalid_any A p cap _ HM.out (HR.out.keep HEX.out))).mono ?_; rintro e w' ⟨y, rfl, rfl⟩)
    go_ret
    exact ⟨ret_int HE.out.symm, eafter HEX.out y⟩
  | true =>
    have HD : Hid (decV T p E en = effV T.service (steepV p E.min en)) := rfl
    obtain ⟨dec, hdec⟩ : ∃ dec, dec = decV T p E en := ⟨_, rfl⟩
    have hdl : dec ≤ 9223372036854775807 := by rw [hdec]; exact decV_le _ _ _ _
    have HE : Hid (permV T p E en = accV (min (ceilV T p E) (stopV T dec E en)) dec T.delay E.max p) := by show _ = _; rw [permV, if_pos hv, hdec]; rfl
    rw [← hdec] at HD
    have HV := Lib.hid hv
    clear hv hdec
    obtain ⟨v1, v2⟩ := spdV_bd (en - E.max) dec T.delay
    have kk : (spdV (en - E.max) dec T.delay ≤ 0 ∧ ceilV T p E ≤ 0 ∧ min (ceilV T p E) (stopV T dec E en) = ceilV T p E) ∨ (spdV (en - E.max) dec T.delay ≤ 0 ∧ 0 < ceilV T p E ∧ min (ceilV T p E) (stopV T dec E en) = 0)
        ∨ (0 < spdV (en - E.max) dec T.delay ∧ ceilV T p E ≤ spdV (en - E.max) dec T.delay ∧ min (ceilV T p E) (stopV T dec E en) = ceilV T p E) ∨ (0 < spdV (en - E.max) dec T.delay ∧ spdV (en - E.max) dec T.delay < ceilV T p E ∧ min (ceilV T p E) (stopV T dec E en) = spdV (en - E.max) dec T.delay) := by unfold stopV; omega
    rcases kk with ⟨k1, k2, k3⟩ | ⟨k1, k2, k3⟩ | ⟨k1, k2, k3⟩ | ⟨k1, k2, k3⟩
    all_goals
      have HK := Lib.hid k3
      clear k3
      go_enter Tryd.func78, Tryd.ntmps78
      go_wp2_with fail
      refine (to_after (rvalid_any A p cap _ HM.out (HR.out.keep HEX.out))).mono ?_
      rintro e w' ⟨y, rfl, rfl⟩
      rw [HV.out]
      go_wp2_with fail
      have HB1 := HBX.out
      have zt := HB1.t.1
      have za := HB1.a.1
      have ze := HB1.e.1
      have u0 := HB1.t.2 0 _ rfl
      have u1 := HB1.t.2 1 _ rfl
      have u2 := HB1.t.2 2 _ rfl
      have u3 := HB1.t.2 3 _ rfl
      have u4 := HB1.t.2 4 _ rfl
      have u5 := HB1.t.2 5 _ rfl
      have u6 := HB1.t.2 6 _ rfl
      have u7 := HB1.t.2 7 _ rfl
      have u8 := HB1.t.2 8 _ rfl
      have u9 := HB1.t.2 9 _ rfl
      have b1 := HB1.a.2 2 _ rfl
      have b2 := HB1.a.2 1 _ rfl
      have b3 := HB1.e.2 0 _ rfl
      have b4 := HB1.e.2 1 _ rfl
      have b5 := HB1.e.2 2 _ rfl
      clear HB1
      refine wp_region_in y (by kernel_rfl) (by kernel_rfl) ?_
      repeat (first | go_big_quiet_step ((first
        | (go_at_call 111; exact after_call _ (rsteep_any _ p cap _ _ _ HM2.out (HR.out.keep (eafter HEX.out _))))
        | (go_at_call 110; exact after_same _ (reff_any _ _ _)))))
      refine wpQuiet_nil ?_
      rintro _ ⟨y2, rfl⟩
      rw [← HD.out]
      go_wp2_with fail
      refine wp_region_in y2 (by kernel_rfl) (by kernel_rfl) ?_
      repeat (first | go_big_quiet_step ((first
        | (go_at_call 112; exact after_call _ (rceil_any T E A p cap _ HM2.out HN.out.e1 HN.out.t (HR.out.keep (eafter HEX.out _))))
        | (go_at_call 113; exact after_same _ (rspeed_any (en - E.max) dec T.delay hdl _)))))
      refine wpQuiet_nil ?_
      rintro _ ⟨y3, rfl⟩
      have HX2 := Lib.hid (eafter HEX.out y3)
      have HB2 := Lib.hid (HBX.out.keep y3.is)
      obtain ⟨wl, hwl⟩ : ∃ wl, wl = y3.val := ⟨_, rfl⟩
      rw [← hwl] at HX2 HB2 ⊢
      clear hwl zt za ze u0 u1 u2 u3 u4 u5 u6 u7 u8 u9 b1 b2 b3 b4 b5
      obtain ⟨base, hbase⟩ : ∃ base, base = min (ceilV T p E) (stopV T dec E en) := ⟨_, rfl⟩
      rw [← hbase] at HE HK
      clear hbase
      clear v1 v2 k1 k2
      go_wp2
      go_loopg [8, 9] p.length (fun g u i wr => ∃ k : Nat, i = .int .i64 k ∧ k ≤ p.length ∧ g = p.length - k ∧ Hid (Ext wl wr ∧ u = .int .i64 (accV base dec T.delay E.max (p.take k))))
      case atStart => exact ⟨0, rfl, by omega, rfl, Ext.refl _, by rw [accV_zero, HK.out]⟩
      case round =>
        obtain ⟨k, rfl, hk, hg, H⟩ := hrel
        obtain ⟨hx, rfl⟩ := H.out
        have HX := Lib.hid hx
        have HG := Lib.hid hg
        clear hg H hx
        have HB3 := HB2.out.keep HX.out
        have t3 := HB3.t.1
        have t4 := HB3.a.1
        have t5 := HB3.e.1
        have g1 := HB3.a.2 2 _ rfl
        by_cases hlt : k < p.length
        · obtain ⟨b, off, s, rfl, hs, hbs, c0, c1, c2, c3⟩ := rd_seg HR.out (etr HX2.out HX.out) hlt
          have HT := Lib.hid (accV_take base dec T.delay E.max hs)
          obtain ⟨s1, s2, s3, s4, s5, s6, s7⟩ := seg_in HV.out hs
          have f1 := HB3.e.2 1 _ rfl
          have f2 := HB3.t.2 7 _ rfl
          clear hs HB3
          by_cases hc : E.max < s.from_
          · rcases Int.lt_or_le (towV (s.from_ - E.max) s.speed dec T.delay) (accV base dec T.delay E.max (p.take k)) with hl | hl
            · have HQ : Hid (accV base dec T.delay E.max (p.take (k + 1)) = towV (s.from_ - E.max) s.speed dec T.delay) := by show _ = _; rw [HT.out, if_pos hc]; omega
              go_wp2_with (go_at_call 114; refine (rtoward_any _ _ dec T.delay hdl _).mono ?_; rintro e w' ⟨rfl, rfl⟩)
              go_roundg (p.length - (k + 1))
              case measure => have := HG.out; omega
              case rel => exact ⟨k + 1, by go_num, by omega, rfl, eal HX.out _, by rw [HQ.out]⟩
            · have HQ : Hid (accV base dec T.delay E.max (p.take (k + 1)) = accV base dec T.delay E.max (p.take k)) := by show _ = _; rw [HT.out, if_pos hc]; omega
              go_wp2_with (go_at_call 114; refine (rtoward_any _ _ dec T.delay hdl _).mono ?_; rintro e w' ⟨rfl, rfl⟩)
              go_roundg (p.length - (k + 1))
              case measure => have := HG.out; omega
              case rel => exact ⟨k + 1, by go_num, by omega, rfl, eal HX.out _, by rw [HQ.out]⟩
          · have HQ : Hid (accV base dec T.delay E.max (p.take (k + 1)) = accV base dec T.delay E.max (p.take k)) := by show _ = _; rw [HT.out, if_neg hc]
            have hc' : decide (E.max < s.from_) = false := decide_eq_false hc
            go_wp2
            go_roundg (p.length - (k + 1))
            case measure => have := HG.out; omega
            case rel => exact ⟨k + 1, by go_num, by omega, rfl, eal HX.out _, by rw [HQ.out]⟩
        · have HQ : Hid (accV base dec T.delay E.max (p.take k) = permV T p E en) := by show _ = _; rw [HE.out, List.take_of_length_le (by omega)]
          go_wp2
          go_ret
          exact ⟨ret_int HQ.out, etr HX2.out HX.out⟩
end Go.Proofs.YtbgmknkmfhpgeaaDoor
