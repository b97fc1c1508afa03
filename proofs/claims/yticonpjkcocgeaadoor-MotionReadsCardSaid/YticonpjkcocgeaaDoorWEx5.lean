/- The chapter's examples, in plain mathematics. -/
import Derived.Test.YticonpjkcocgeaaDoorWLin5
import Derived.Test.YticonpjkcocgeaaDoorWUni5
import Derived.Test.YticonpjkcocgeaaDoorWReaC
set_option linter.unusedVariables false
set_option linter.unusedSimpArgs false
set_option maxRecDepth 100000
namespace Go.Proofs.YticonpjkcocgeaaDoor
open Go.ChangeShapes Go.WideShapes Go.ChangeAt Go.RowKit
open Sg

def exT : Tr := ⟨1, ⟨#[110]⟩, 5000, 3000, 100, 50, 100, 1, 0, 0⟩
def exC (br : Int) : Cu := ⟨exT, 0, br, 0, 0, 0, 0, 0, 0, [], [], 0, 0, 0, 0, false, 0⟩
def exS2 : List Stp := [⟨0, 0, 1⟩, ⟨1, 0, 1⟩]
theorem ex5_els : ElsOk line5E := fun k x h => by
  have := List.mem_of_getElem? h
  simp [line5E] at this
  rcases this with rfl | rfl | rfl <;> decide
theorem ex5_jts : JtsOk line5E line5J := fun k x h => by
  have := List.mem_of_getElem? h
  simp [line5J] at this
  rcases this with rfl | rfl <;> decide
theorem ex5_bals : BalOk line5E line5B := fun k x h => by
  have := List.mem_of_getElem? h
  simp [line5B] at this
  rcases this with rfl | rfl <;> decide
theorem ex5_way : Sg.Way line5E line5J exS := by
  refine ⟨by decide, by decide, fun i s hi hs => ?_⟩
  have hi' : i < 1 := hi
  obtain rfl : i = 0 := by omega
  simp [exS] at hs
  subst hs
  exact ⟨⟨by decide, by decide⟩, fun j t hj => absurd hj (by omega), fun t h => absurd h (by omega)⟩
theorem ex5_way2 : Sg.Way line5E line5J exS2 := by
  refine ⟨by decide, by decide, fun i s hi hs => ?_⟩
  have hi' : i < 2 := hi
  have key : i = 0 ∨ i = 1 := by omega
  rcases key with rfl | rfl
  · simp [exS2] at hs
    subst hs
    exact ⟨⟨by decide, by decide⟩, fun j t hj => absurd hj (by omega), fun t h => absurd h (by omega)⟩
  · simp [exS2] at hs
    subst hs
    refine ⟨⟨by decide, by decide⟩, fun j t hj ht => ?_, fun t h ht => ?_⟩
    · obtain rfl : j = 0 := by omega
      simp [exS2] at ht
      subst ht
      decide
    · simp [exS2] at ht
      subst ht
      exact ⟨by decide, by decide, by decide⟩
theorem ex5_chk (h : Int) (h0 : 5000 ≤ h) (h1 : h ≤ 20000) : chkM line5E line5J exS h 5000 = 0 := by
  refine chkM_zero.2 ⟨⟨ex5_way, by decide, by decide, by omega, ?_⟩, ?_, ?_⟩
  · show h ≤ 20000; exact h1
  · show 0 ≤ 0 + h - 5000; omega
  · intro h2; exact absurd h2 (by decide)
theorem ex5_chk2 : chkM line5E line5J exS2 200 5000 = 0 := by
  refine chkM_zero.2 ⟨⟨ex5_way2, by decide, by decide, by decide, by decide⟩, by decide, ?_⟩
  intro _; decide
theorem ex5_tr : Sg.chkE exT = 0 := by decide
theorem ex5_good (h v br x : Int) (h0 : 5000 ≤ h) (h1 : h ≤ 20000) (hv : 0 ≤ v ∧ v ≤ 10000) (hx : 0 ≤ x ∧ x ≤ 10000) (hb : 0 ≤ br ∧ br ≤ 10) : goodB line5E line5J exT exS h 5000 v x br = true :=
  goodB_true.2 ⟨ex5_chk h h0 h1, ex5_tr, hv, by omega, by omega⟩
theorem ex5_grade (h : Int) (h0 : 5000 ≤ h) (h1 : h ≤ 20000) : gradV line5E line5J exS h 5000 = 0 := by
  rw [grad_up (ex5_chk h h0 h1) rfl (.inl rfl)]; rfl
theorem ex5_grade2 : gradV line5E line5J exS2 200 5000 = 0 := by
  rw [grad_up ex5_chk2 rfl (.inl rfl)]; rfl
theorem ex5_move (h d : Int) (h0 : 5000 ≤ h) (h1 : h + d ≤ 20000) (hd : 0 ≤ d) (hd2 : d ≤ 1000) : moveV line5E line5J [] 5000 exS h d = ⟨exS, h + d, d, false⟩ := by
  unfold moveV
  rw [if_pos (ex5_chk h h0 (by omega))]
  unfold movV
  have e : max 0 (min d 1000000) = d := by omega
  rw [e]
  have hl : lenOf line5E (lastS exS) = 20000 := rfl
  have h2 := @mov_adv line5E line5J [] 5000 2002 exS h d 0 d (by rw [hl]; omega) hd (by rw [hl]; omega)
  rw [Int.sub_self] at h2
  rw [← h2, mov_done (by rw [hl]; omega), Int.zero_add]
  rfl
theorem ex5_step1 : stepV line5E line5J [] exT 0 exS 15000 5000 0 0 0 1000 = ⟨exS, 15100, 100, 100, 0, 100, false⟩ := by
  rw [stepV_yes (v := 100) (m := ⟨exS, 15100, 100, false⟩) (ex5_good _ _ _ _ (by decide) (by decide) (by decide) (by decide) (by decide)) (by rw [ex5_grade _ (by decide) (by decide)]; decide) (ex5_move 15000 100 (by decide) (by decide) (by decide) (by decide)).symm]
  rfl
theorem ex5_step2 : stepV line5E line5J [] exT 2 exS 15000 5000 200 0 0 1000 = ⟨exS, 15200, 200, 200, 1, 200, false⟩ := by
  rw [stepV_yes (v := 200) (m := ⟨exS, 15200, 200, false⟩) (ex5_good _ _ _ _ (by decide) (by decide) (by decide) (by decide) (by decide)) (by rw [ex5_grade _ (by decide) (by decide)]; decide) (ex5_move 15000 200 (by decide) (by decide) (by decide) (by decide)).symm]
  rfl
theorem ex5_step3 : stepV line5E line5J [] exT 2 exS 15200 5000 200 200 1 1000 = ⟨exS, 15300, 100, 300, 2, 100, false⟩ := by
  rw [stepV_yes (v := 100) (m := ⟨exS, 15300, 100, false⟩) (ex5_good _ _ _ _ (by decide) (by decide) (by decide) (by decide) (by decide)) (by rw [ex5_grade _ (by decide) (by decide)]; decide) (ex5_move 15200 100 (by decide) (by decide) (by decide) (by decide)).symm]
  rfl
theorem ex5_passA : passA line5E line5B exS 19900 exS2 = [⟨20000, 4⟩, ⟨20050, 8⟩] := by rfl
theorem ex5_reads : readsV line5E line5J line5B exS 19900 5000 exS2 200 5000 = [⟨4, 200⟩, ⟨8, 150⟩] := by
  unfold readsV
  rw [if_pos ⟨ex5_chk _ (by decide) (by decide), ex5_chk2⟩, ex5_passA]
  rfl
end Go.Proofs.YticonpjkcocgeaaDoor
