/- Walks of package profile and of its reference: Cut. -/
import Derived.Test.YtacnfchoemndeaaDoorWProfF
set_option linter.unusedVariables false
set_option linter.unusedSimpArgs false
namespace Go.Proofs.YtacnfchoemndeaaDoor
open Go.ChangeShapes Go.WideShapes Go.ChangeAt Go.RowKit
open Sg

noncomputable def cutT (p : List Sgm) (f t : Int) (k : Nat) : List Sgm := if validB p = true then cutF f t (p.take k) else []
theorem cutT_len (p : List Sgm) (f t : Int) (k : Nat) : (cutT p f t k).length ≤ k := by
  unfold cutT; split
  · have := cutF_len f t (p.take k); simp at this; omega
  · simp
set_option maxHeartbeats 8000000 in
theorem rcut_any (A : Option Addr) (p : List Sgm) (cap : Nat) (f t : Int) (w : World) (hm : p.length ≤ 1000000) (hr : Rd w A 4 Sgc p) :
    Calls Tryd.prog 54 #[.slice A p.length cap, .int .i64 f, .int .i64 t] w fun e w' => ∃ v, e = .returned v ∧ OwnL w' w.heap.size 53 4 Sgc v (cutL p f t) ∧ Below w.heap.size w w' := by
  have HM : Hid (p.length ≤ maxLen) := by show _ ≤ _; unfold maxLen; omega
  have HR := Lib.hid hr
  clear hr
  obtain ⟨i0, hi, hz0, hz1, hz2⟩ := info_parts seg_info
  obtain ⟨vb, hvb⟩ : ∃ vb, validB p = vb := ⟨_, rfl⟩
  have HVB := Lib.hid hvb
  go_enter Tryd.func54, Tryd.ntmps54
  go_wp2
  go_loopg [7, 12] p.length (fun g v i wr => ∃ k : Nat, i = .int .i64 k ∧ k ≤ p.length ∧ g = p.length - k ∧ Hid (Below w.heap.size w wr ∧ OwnL wr w.heap.size 53 4 Sgc v (cutT p f t k)))
  case atStart => exact ⟨0, rfl, by omega, rfl, Below.refl _ _, by have : cutT p f t 0 = [] := (by unfold cutT; split <;> simp [cutF]); rw [this]; exact OwnL.nil⟩
  case round =>
    obtain ⟨k, rfl, hk, hg, H⟩ := hrel
    have HG := Lib.hid hg
    clear hg
    by_cases hlt : k < p.length
    · obtain ⟨b, off, s, rfl, hs, hbs, c0, c1, c2, c3⟩ := rd_seg HR.out H.out.1 hlt
      have HT := Lib.hid (cutF_take (f := f) (t := t) hs)
      have HRw : Hid (∀ o, Rd (wr.alloc o) (some ⟨b, off, none⟩) 4 Sgc p) := fun o => (HR.out.keep H.out.1).keep ((Below.refl wr.heap.size wr).alloc (Nat.le_refl _) o)
      have hsz := H.out.1.size
      have hlen := cutT_len p f t k
      have k1 : (f ≤ s.from_ ∧ max s.from_ f = s.from_) ∨ (s.from_ < f ∧ max s.from_ f = f) := by omega
      have k2 : (s.to_ ≤ t ∧ min s.to_ t = s.to_) ∨ (t < s.to_ ∧ min s.to_ t = t) := by omega
      have HP : Hid (partS f t s = ⟨max s.from_ f, min s.to_ t, s.grade, s.speed⟩) := rfl
      have HB : Hid (partB f t s = decide (max s.from_ f < min s.to_ t)) := rfl
      clear hs
      cases vb
      · have HQ : Hid (cutT p f t (k + 1) = cutT p f t k) := by show _ = _; rw [cutT, cutT, HVB.out]; rfl
        rcases k1 with ⟨k1, e1⟩ | ⟨k1, e1⟩
        all_goals rcases k2 with ⟨k2, e2⟩ | ⟨k2, e2⟩
        all_goals clear e1 e2 HP HB
        all_goals go_wp2_with (go_at_call 21; refine (to_after (rvalid_any _ p cap _ HM.out (HRw.out _))).mono ?_; rintro e w' ⟨y, rfl, rfl⟩)
        all_goals go_roundg (p.length - (k + 1))
        all_goals first | (case measure => have := HG.out; omega) | skip
        all_goals exact ⟨k + 1, by go_num, by omega, rfl, (H.out.1.alloc H.out.1.size _).trans (y.is.mono (by simp; omega)), by rw [HQ.out]; exact (H.out.2.alloc _).keep y.is⟩
      · by_cases hp : partB f t s = true
        · have HQ : Hid (cutT p f t (k + 1) = cutT p f t k ++ [partS f t s]) := by show _ = _; rw [cutT, cutT, if_pos HVB.out, if_pos HVB.out, HT.out, if_pos hp]
          rcases k1 with ⟨k1, e1⟩ | ⟨k1, e1⟩
          all_goals rcases k2 with ⟨k2, e2⟩ | ⟨k2, e2⟩
          all_goals rw [e1, e2] at HP HB
          all_goals clear e1 e2
          all_goals have hp2 := HB.out
          all_goals rw [hp] at hp2
          all_goals have hp3 := of_decide_eq_true hp2.symm
          all_goals clear hp2 hp
          all_goals go_wp2_with (first
            | (go_at_call 21; refine (to_after (rvalid_any _ p cap _ HM.out (HRw.out _))).mono ?_; rintro e w' ⟨y, rfl, rfl⟩)
            | (at_builtin
               refine wp_app1 Sgc_len Sgc_one Tryd.underlying43 hi hz0 hz1 hz2 rfl (by decide) rfl rfl rfl (((H.out.2.alloc _).keep y.is).alloc _) (partS f t s) y.val.heap.size rfl (by rw [HP.out]; exact CellsAt.new rfl) (by omega) (by unfold maxLen; omega) (by have := y.is.size; simp at this ⊢; omega) ?_
               intro v1 w1 ho1 hg1 hat1
               have HO1 := Lib.hid ho1
               have HB1 := Lib.hid (OwnL.app_below (((H.out.1.alloc H.out.1.size _).trans (y.is.mono (by simp; omega))).alloc (by have := y.is.size; simp at this; omega) _) (by have := y.is.size; simp at this ⊢; omega) (fun b hb => (H.out.2.lt b hb).1) hg1)
               clear ho1 hg1 hat1))
          all_goals go_roundg (p.length - (k + 1))
          all_goals first | (case measure => have := HG.out; omega) | skip
          all_goals exact ⟨k + 1, by go_num, by omega, rfl, HB1.out, by rw [HQ.out]; exact HO1.out⟩
        · have hp' : partB f t s = false := by simpa using hp
          have HQ : Hid (cutT p f t (k + 1) = cutT p f t k) := by show _ = _; rw [cutT, cutT, if_pos HVB.out, if_pos HVB.out, HT.out, if_neg hp]; simp
          rcases k1 with ⟨k1, e1⟩ | ⟨k1, e1⟩
          all_goals rcases k2 with ⟨k2, e2⟩ | ⟨k2, e2⟩
          all_goals rw [e1, e2] at HP HB
          all_goals clear e1 e2
          all_goals have hp2 := HB.out
          all_goals rw [hp'] at hp2
          all_goals have hp3 := hp2.symm
          all_goals clear hp2 hp hp' HP
          all_goals go_wp2_with (go_at_call 21; refine (to_after (rvalid_any _ p cap _ HM.out (HRw.out _))).mono ?_; rintro e w' ⟨y, rfl, rfl⟩)
          all_goals go_roundg (p.length - (k + 1))
          all_goals first | (case measure => have := HG.out; omega) | skip
          all_goals exact ⟨k + 1, by go_num, by omega, rfl, (H.out.1.alloc H.out.1.size _).trans (y.is.mono (by simp; omega)), by rw [HQ.out]; exact (H.out.2.alloc _).keep y.is⟩
    · have HQ : Hid (cutT p f t k = cutL p f t) := by show _ = _; rw [cutT, cutL, List.take_of_length_le (by omega)]
      go_wp2
      go_ret
      exact ⟨_, rfl, by rw [← HQ.out]; exact H.out.2, H.out.1⟩
end Go.Proofs.YtacnfchoemndeaaDoor
