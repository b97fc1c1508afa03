/- Walks of package profile and of its reference: Cut. -/
import Derived.Test.YtoodehilgogomaaDoorWProfF
set_option linter.unusedVariables false
set_option linter.unusedSimpArgs false
namespace Go.Proofs.YtoodehilgogomaaDoor
open Go.ChangeShapes Go.WideShapes Go.ChangeAt Go.RowKit
open Sg

noncomputable def cutT (p : List Sgm) (f t : Int) (k : Nat) : List Sgm := if validB p = true then cutF f t (p.take k) else []
theorem cutT_len (p : List Sgm) (f t : Int) (k : Nat) : (cutT p f t k).length ≤ k := by
  unfold cutT; split
  · have := cutF_len f t (p.take k); simp at this; omega
  · simp
set_option maxHeartbeats 4000000 in
theorem cut_any (A : Option Addr) (p : List Sgm) (cap : Nat) (f t : Int) (w : World) (hm : p.length ≤ 1000000) (hr : Rd w A 4 Sgc p) :
    Calls Tryd.prog 19 #[.slice A p.length cap, .int .i64 f, .int .i64 t] w fun e w' => ∃ v, e = .returned v ∧ OwnL w' w.heap.size 41 4 Sgc v (cutL p f t) ∧ Below w.heap.size w w' := by
  have HM : Hid (p.length ≤ maxLen) := by show _ ≤ _; unfold maxLen; omega
  have HR := Lib.hid hr
  clear hr
  obtain ⟨i0, hi, hz0, hz1, hz2⟩ := info_parts seg_info
  by_cases hv : validB p = true
  · have HE : Hid (cutL p f t = cutF f t p) := by show _ = _; rw [cutL, if_pos hv]
    go_enter Tryd.func19, Tryd.ntmps19
    go_wp2_with fail
    refine (to_after (valid_any A p cap _ HM.out HR.out)).mono ?_
    rintro e w' ⟨y0, rfl, rfl⟩
    go_wp2
    go_loopg [7, 17] p.length (fun g v i wr => ∃ k : Nat, i = .int .i64 k ∧ k ≤ p.length ∧ g = p.length - k ∧ Hid (Below w.heap.size w wr ∧ OwnL wr w.heap.size 41 4 Sgc v (cutF f t (p.take k))))
    case atStart => exact ⟨0, rfl, by omega, rfl, y0.is, OwnL.nil⟩
    case round =>
      obtain ⟨k, rfl, hk, hg, H⟩ := hrel
      have HG := Lib.hid hg
      clear hg
      by_cases hlt : k < p.length
      · obtain ⟨b, off, s, rfl, hs, hbs, c0, c1, c2, c3⟩ := rd_seg HR.out H.out.1 hlt
        have HT := Lib.hid (cutF_take (f := f) (t := t) hs)
        have hsz := H.out.1.size
        have hlen : (cutF f t (p.take k)).length ≤ k := by have := cutF_len f t (p.take k); simp at this; omega
        clear hs
        by_cases hp : partB f t s = true
        · have HQ : Hid (cutF f t (p.take (k + 1)) = cutF f t (p.take k) ++ [partS f t s]) := by show _ = _; rw [HT.out, if_pos hp]
          go_wp2_with (first
            | (go_at_call 39; refine (to_after (part_any f t s _)).mono ?_; rintro e w' ⟨y, rfl, rfl⟩)
            | (at_builtin
               refine wp_app1 Sgc_len Sgc_one Tryd.underlying34 hi hz0 hz1 hz2 rfl (by decide) rfl rfl rfl ((((H.out.2.alloc _).keep y.is).alloc _).alloc _) (partS f t s) (y.val.heap.size + 1) (by simp [go_sem]) (by exact CellsAt.new (by simp)) (by omega) (by unfold maxLen; omega) (by have := y.is.size; simp at this ⊢; omega) ?_
               intro v1 w1 ho1 hg1 hat1
               have HO1 := Lib.hid ho1
               have HB1 := Lib.hid (OwnL.app_below ((((H.out.1.alloc H.out.1.size _).trans (y.is.mono (by simp; omega))).alloc (by have := y.is.size; simp at this; omega) _).alloc (by have := y.is.size; simp at this ⊢; omega) _) (by have := y.is.size; simp at this ⊢; omega) (fun b hb => (H.out.2.lt b hb).1) hg1)
               clear ho1 hg1 hat1))
          go_roundg (p.length - (k + 1))
          case measure => have := HG.out; omega
          case rel => exact ⟨k + 1, by go_num, by omega, rfl, HB1.out, by rw [HQ.out]; exact HO1.out⟩
        · have hp' : partB f t s = false := by simpa using hp
          have HQ : Hid (cutF f t (p.take (k + 1)) = cutF f t (p.take k)) := by show _ = _; rw [HT.out, if_neg hp]; simp
          clear hp
          go_wp2_with (go_at_call 39; refine (to_after (part_any f t s _)).mono ?_; rintro e w' ⟨y, rfl, rfl⟩)
          go_roundg (p.length - (k + 1))
          case measure => have := HG.out; omega
          case rel => exact ⟨k + 1, by go_num, by omega, rfl, ((H.out.1.alloc H.out.1.size _).trans (y.is.mono (by simp; omega))).alloc (by have := y.is.size; simp at this; omega) _, by rw [HQ.out]; exact ((H.out.2.alloc _).keep y.is).alloc _⟩
      · have HQ : Hid (cutF f t (p.take k) = cutL p f t) := by show _ = _; rw [HE.out, List.take_of_length_le (by omega)]
        go_wp2
        go_ret
        exact ⟨_, rfl, by rw [← HQ.out]; exact H.out.2, H.out.1⟩
  · have hv' : validB p = false := by simpa using hv
    have HE : Hid (cutL p f t = []) := by show _ = _; rw [cutL, if_neg hv]
    clear hv
    go_enter Tryd.func19, Tryd.ntmps19
    go_wp2_with (go_at_call 10; refine (to_after (valid_any A p cap _ HM.out HR.out)).mono ?_; rintro e w' ⟨y, rfl, rfl⟩)
    go_ret
    exact ⟨_, rfl, by rw [HE.out]; exact OwnL.nil, y.is⟩
end Go.Proofs.YtoodehilgogomaaDoor
