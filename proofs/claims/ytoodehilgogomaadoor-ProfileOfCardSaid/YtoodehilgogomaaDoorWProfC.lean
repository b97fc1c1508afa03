/- Walks of package profile and of its reference: At. -/
import Derived.Test.YtoodehilgogomaaDoorWProf
import Derived.Test.YtoodehilgogomaaDoorWProfB
set_option linter.unusedVariables false
set_option linter.unusedSimpArgs false
namespace Go.Proofs.YtoodehilgogomaaDoor
open Go.ChangeShapes Go.WideShapes Go.ChangeAt Go.RowKit
open Sg

set_option maxHeartbeats 4000000 in
theorem at_any (A : Option Addr) (p : List Sgm) (cap : Nat) (x : Int) (w : World) (hm : p.length ≤ maxLen) (hr : Rd w A 4 Sgc p) : Calls Tryd.prog 16 #[.slice A p.length cap, .int .i64 x] w fun e w' => e = .returned (.tuple #[.agg #[.int .i64 (atS p x).from_, .int .i64 (atS p x).to_, .int .i64 (atS p x).grade, .int .i64 (atS p x).speed], .bool (atB p x)]) ∧ Below w.heap.size w w' := by
  have HM := Lib.hid hm
  unfold maxLen at hm
  have HR := Lib.hid hr
  clear hr
  by_cases hv : validB p = true
  · go_enter Tryd.func16, Tryd.ntmps16
    go_wp2_with fail
    refine (to_after (valid_any A p cap _ HM.out (HR.out.keep ((Below.refl _ _).alloc (Nat.le_refl _) _)))).mono ?_
    rintro e w' ⟨y, rfl, rfl⟩
    go_wp2
    go_loopg [14] p.length (fun g i wr => ∃ k : Nat, i = .int .i64 k ∧ k ≤ p.length ∧ g = p.length - k ∧ Hid (Below w.heap.size w wr ∧ Own wr w.heap.size [.int .i64 0, .int .i64 0, .int .i64 0, .int .i64 0] ∧ ∀ (j : Nat) (t : Sgm), j < k → p[j]? = some t → hitB x t = false))
    case atStart => exact ⟨0, rfl, by omega, rfl, ((Below.refl _ _).alloc (Nat.le_refl _) _).trans (y.is.mono (by simp)), (Own.new rfl).keep y.is, fun j t h => absurd h (by omega)⟩
    case round =>
      obtain ⟨k, rfl, hk, hg, H⟩ := hrel
      have HG := Lib.hid hg
      clear hg
      have sz := H.out.2.1.1
      have r0 := H.out.2.1.2.1 0 _ rfl
      have r1 := H.out.2.1.2.1 1 _ rfl
      have r2 := H.out.2.1.2.1 2 _ rfl
      have r3 := H.out.2.1.2.1 3 _ rfl
      have fz := H.out.2.1.2.2
      by_cases hlt : k < p.length
      · obtain ⟨b, off, s, rfl, hs, hbs, c0, c1, c2, c3⟩ := rd_seg HR.out H.out.1 hlt
        by_cases hit : hitB x s = true
        · have h := atO_hit hv hs H.out.2.2 hit
          have HE : Hid (atS p x = s ∧ atB p x = true) := ⟨by rw [atS, h]; rfl, by rw [atB, h]; rfl⟩
          have hit' : s.from_ ≤ x ∧ x < s.to_ := by simpa [hitB] using hit
          obtain ⟨i1, i2⟩ := hit'
          clear hs hit h
          go_wp2
          exact bodyPost_ret (v := .tuple #[.agg #[.int .i64 (atS p x).from_, .int .i64 (atS p x).to_, .int .i64 (atS p x).grade, .int .i64 (atS p x).speed], .bool (atB p x)]) (by rw [HE.out.1, HE.out.2]; simp [results, Tryd.results16, go_sem, r0, r1, r2, r3, sz]) rfl ⟨rfl, ((((H.out.1.setCell (by simp) _).setCell (by simp) _).setCell (by simp) _).setCell (by simp) _).alloc (by have := H.out.1.size; simp [World.setCell]; omega) _⟩
        · have HN : Hid (∀ (j : Nat) (t : Sgm), j < k + 1 → p[j]? = some t → hitB x t = false) := fun j t hj hjt => by
            by_cases e : j = k
            · subst e; rw [hs] at hjt; cases hjt; simpa using hit
            · exact H.out.2.2 j t (by omega) hjt
          have hit' : decide (s.from_ ≤ x) = false ∨ (s.from_ ≤ x ∧ decide (x < s.to_) = false) := by
            have : ¬ (s.from_ ≤ x ∧ x < s.to_) := by simpa [hitB] using hit
            simp; omega
          clear hs hit
          rcases hit' with i1 | ⟨i1, i2⟩
          all_goals go_wp2
          all_goals go_roundg (p.length - (k + 1))
          all_goals first | (case measure => have := HG.out; omega) | skip
          all_goals exact ⟨k + 1, by go_num, by omega, rfl, H.out.1.alloc H.out.1.size _, H.out.2.1.alloc _, HN.out⟩
      · have h := atO_none (x := x) (p := p) (.inr (fun j t hj => H.out.2.2 j t (by have := (List.getElem?_eq_some_iff.1 hj).1; omega) hj))
        have HE : Hid (atS p x = Sgm.z ∧ atB p x = false) := ⟨by rw [atS, h]; rfl, by rw [atB, h]; rfl⟩
        clear h
        go_wp2
        exact bodyPost_ret (v := .tuple #[.agg #[.int .i64 (atS p x).from_, .int .i64 (atS p x).to_, .int .i64 (atS p x).grade, .int .i64 (atS p x).speed], .bool (atB p x)]) (by rw [HE.out.1, HE.out.2]; simp [results, Tryd.results16, go_sem, r0, r1, r2, r3, sz, Sgm.z]) rfl ⟨rfl, (((H.out.1.setCell (by simp) _).setCell (by simp) _).setCell (by simp) _).setCell (by simp) _⟩
  · have hv' : validB p = false := by simpa using hv
    have h := atO_none (x := x) (.inl hv')
    have HE : Hid (atS p x = Sgm.z ∧ atB p x = false) := ⟨by rw [atS, h]; rfl, by rw [atB, h]; rfl⟩
    clear h hv
    go_enter Tryd.func16, Tryd.ntmps16
    go_wp2_with fail
    refine (to_after (valid_any A p cap _ HM.out (HR.out.keep ((Below.refl _ _).alloc (Nat.le_refl _) _)))).mono ?_
    rintro e w' ⟨y, rfl, rfl⟩
    go_wp2
    exact bodyPost_ret (v := .tuple #[.agg #[.int .i64 (atS p x).from_, .int .i64 (atS p x).to_, .int .i64 (atS p x).grade, .int .i64 (atS p x).speed], .bool (atB p x)]) (by rw [HE.out.1, HE.out.2]; simp [results, Tryd.results16, go_sem, Sgm.z]) rfl ⟨rfl, ((((((Below.refl _ _).alloc (Nat.le_refl _) _).trans (y.is.mono (by simp))).setCell (by simp) _).setCell (by simp) _).setCell (by simp) _).setCell (by simp) _⟩
end Go.Proofs.YtoodehilgogomaaDoor
