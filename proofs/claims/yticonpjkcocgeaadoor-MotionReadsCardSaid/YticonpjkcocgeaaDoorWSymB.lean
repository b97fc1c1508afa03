/- Walks: the library's rotate of passed balises. -/
import Derived.Test.YticonpjkcocgeaaDoorWSymA
set_option linter.unusedVariables false
set_option linter.unusedSimpArgs false
set_option maxRecDepth 100000
namespace Go.Proofs.YticonpjkcocgeaaDoor
open Go.ChangeShapes Go.WideShapes Go.ChangeAt Go.RowKit
open Sg

/-- The exchange of two ranges, written out. -/
theorem swapr_parts (g cap n a b k : Nat) (A X M Y B : List Pas) (w : World) (hn : n = (A ++ (X ++ (M ++ (Y ++ B)))).length) (ha : a = A.length) (hb : b = A.length + X.length + M.length) (hk : k = X.length) (hxy : X.length = Y.length) (hO : Own w g ((A ++ (X ++ (M ++ (Y ++ B)))).flatMap Pc)) (hm : n ≤ 1000000) (F : Value) :
    Calls Tryd.prog 111 #[.slice (some ⟨g, 0, none⟩) n cap, .int .i64 a, .int .i64 b, .int .i64 k, F] w fun e w' => e = .returned (.tuple #[]) ∧ Own w' g ((A ++ (Y ++ (M ++ (X ++ B)))).flatMap Pc) ∧ Below g w w' := by
  subst hn ha hb hk
  refine (swapr_any g cap _ _ _ _ w hO (by omega) (by simp only [List.length_append]; omega) hm F).mono ?_
  rintro e w' ⟨rfl, m, hs, ho, hb⟩
  have := hs.parts hxy
  subst this
  exact ⟨rfl, ho, hb⟩
section
set_option maxHeartbeats 8000000
theorem rot_any (g cap n a m b : Nat) (A X Y B : List Pas) (w : World) (hn : n = (A ++ (X ++ (Y ++ B))).length) (ha : a = A.length) (hm : m = a + X.length) (hb : b = m + Y.length) (hX : 0 < X.length) (hY : 0 < Y.length) (hO : Own w g ((A ++ (X ++ (Y ++ B))).flatMap Pc)) (h6 : n ≤ 1000000) (F : Value) :
    Calls Tryd.prog 108 #[.slice (some ⟨g, 0, none⟩) n cap, .int .i64 a, .int .i64 m, .int .i64 b, F] w fun e w' => e = .returned (.tuple #[]) ∧ Own w' g ((A ++ (Y ++ (X ++ B))).flatMap Pc) ∧ Below g w w' := by
  have HO := Lib.hid hO
  have hn' := hn
  simp only [List.length_append] at hn'
  have HNN := Lib.hid hn
  have n1 : IntKind.i64.wrap ((m : Int) - (a : Int)) = (X.length : Int) := by rw [IntWalk.i64_in _ (by omega)]; omega
  have n2 : IntKind.i64.wrap ((b : Int) - (m : Int)) = (Y.length : Int) := by rw [IntWalk.i64_in _ (by omega)]; omega
  have HEQ : Hid (a = A.length ∧ m = a + X.length ∧ b = m + Y.length) := ⟨ha, hm, hb⟩
  have HST : Hid (X.length ≤ n ∧ Y.length ≤ n ∧ a + X.length = m) := ⟨by omega, by omega, by omega⟩
  clear hO hn hn' ha hm hb
  go_enter Tryd.func108, Tryd.ntmps108
  go_wp2
  clear n1 n2
  go_loopg [10, 11] (X.length + Y.length) (fun gg x10 x11 wr => ∃ (i j p : Nat) (P U V Q : List Pas), x10 = .int .i64 i ∧ x11 = .int .i64 j ∧ gg = i + j ∧ p + i = m ∧ 0 < i ∧ 0 < j ∧ i ≤ n ∧ j ≤ n ∧ Hid (i = U.length ∧ j = V.length ∧ p = P.length ∧ n = (P ++ (U ++ (V ++ Q))).length ∧ P ++ (V ++ (U ++ Q)) = A ++ (Y ++ (X ++ B))) ∧ Hid (Own wr g ((P ++ (U ++ (V ++ Q))).flatMap Pc)) ∧ Hid (Below g w wr))
  case atStart => exact ⟨X.length, Y.length, a, A, X, Y, B, rfl, rfl, rfl, HST.out.2.2, hX, hY, HST.out.1, HST.out.2.1, ⟨rfl, rfl, HEQ.out.1, HNN.out, rfl⟩, HO.out, Below.refl _ _⟩
  case round =>
    obtain ⟨wi, rfl⟩ : ∃ wi : World, wi = wr := ⟨_, rfl⟩
    obtain ⟨i, j, p, P, U, V, Q, rfl, rfl, hg, hp, hi0, hj0, hin, hjn, E, O, B'⟩ := hrel
    have HG := Lib.hid hg
    have hl := E.out.2.2.2.1
    simp only [List.length_append] at hl
    have eU := E.out.1
    have eV := E.out.2.1
    have eP := E.out.2.2.1
    have HP := Lib.hid hp
    have n1 : IntKind.i64.wrap ((m : Int) - (i : Int)) = (p : Int) := by rw [IntWalk.i64_in _ (by omega)]; omega
    rcases Nat.lt_trichotomy i j with hlt | heq | hgt
    · have q0 : ((i : Int) != (j : Int)) = true := by simp; omega
      have q1 : decide (j < i) = false := decide_eq_false (by omega)
      obtain ⟨k, hk⟩ : ∃ k, k = m + (j - i) := ⟨_, rfl⟩
      have n2 : IntKind.i64.wrap ((m : Int) + (j : Int)) = (m : Int) + (j : Int) := IntWalk.i64_in _ (by omega)
      have n3 : IntKind.i64.wrap ((m : Int) + (j : Int) - (i : Int)) = (k : Int) := by rw [IntWalk.i64_in _ (by omega)]; omega
      have n4 : IntKind.i64.wrap ((j : Int) - (i : Int)) = ((j - i : Nat) : Int) := by rw [IntWalk.i64_in _ (by omega)]; omega
      have e1 : V = V.take (j - i) ++ V.drop (j - i) := (List.take_append_drop _ _).symm
      have l1 : (V.take (j - i)).length = j - i := by rw [List.length_take]; omega
      have l2 : (V.drop (j - i)).length = i := by rw [List.length_drop]; omega
      have e2 : P ++ (U ++ (V ++ Q)) = P ++ (U ++ (V.take (j - i) ++ (V.drop (j - i) ++ Q))) := by rw [← List.append_assoc (V.take (j - i)), ← e1]
      have HSW := Lib.hid (swapr_parts g cap n p k i P U (V.take (j - i)) (V.drop (j - i)) Q wi (by rw [← e2]; exact E.out.2.2.2.1) eP (by omega) eU (by omega) (by rw [← e2]; exact O.out) h6 F)
      have HN : Hid (i = (V.drop (j - i)).length ∧ j - i = (V.take (j - i)).length ∧ p = P.length ∧ n = (P ++ (V.drop (j - i) ++ (V.take (j - i) ++ (U ++ Q)))).length ∧ P ++ (V.take (j - i) ++ (V.drop (j - i) ++ (U ++ Q))) = A ++ (Y ++ (X ++ B))) := by
        refine ⟨l2.symm, l1.symm, eP, by simp only [List.length_append]; omega, ?_⟩
        rw [← E.out.2.2.2.2, ← List.append_assoc (V.take (j - i)), ← e1]
      have hji : 0 < j - i ∧ j - i ≤ n := by omega
      clear e1 e2 l1 l2 hk hl eU eV eP
      obtain ⟨d, hd⟩ : ∃ d, d = j - i := ⟨_, rfl⟩
      have HD := Lib.hid (show d + i = j by omega)
      rw [← hd] at n4 HSW HN hji
      clear hd hlt hg hp
      go_wp2_with (go_at_call 111; refine HSW.out.mono ?_; rintro e w7 ⟨rfl, ho, hb⟩; have O7 := Lib.hid ho; have B7 := Lib.hid (B'.out.trans hb); clear ho hb)
      go_roundg (i + d)
      case measure => have := HG.out; have := HD.out; omega
      case rel => exact ⟨i, d, p, P, V.drop d, V.take d, U ++ Q, rfl, rfl, rfl, HP.out, hi0, hji.1, hin, hji.2, HN.out, O7.out, B7.out⟩
    · subst heq
      have q0 : ((i : Int) != (i : Int)) = false := by simp
      have HSW := Lib.hid (swapr_parts g cap n p m i P U [] V Q wi E.out.2.2.2.1 eP (by simp; omega) eU (by omega) O.out h6 F)
      have HE : Hid (P ++ (V ++ ([] ++ (U ++ Q))) = A ++ (Y ++ (X ++ B))) := E.out.2.2.2.2
      clear hl eU eV eP hp hg
      go_wp2_with (go_at_call 111; refine HSW.out.mono ?_; rintro e w7 ⟨rfl, ho, hb⟩; rw [HE.out] at ho; have O7 := Lib.hid ho; have B7 := Lib.hid (B'.out.trans hb); clear ho hb)
      go_end0
      exact ⟨rfl, O7.out, B7.out⟩
    · have q0 : ((i : Int) != (j : Int)) = true := by simp; omega
      have q1 : decide (j < i) = true := decide_eq_true (by omega)
      have n4 : IntKind.i64.wrap ((i : Int) - (j : Int)) = ((i - j : Nat) : Int) := by rw [IntWalk.i64_in _ (by omega)]; omega
      have e1 : U = U.take j ++ U.drop j := (List.take_append_drop _ _).symm
      have l1 : (U.take j).length = j := by rw [List.length_take]; omega
      have l2 : (U.drop j).length = i - j := by rw [List.length_drop]; omega
      have e2 : P ++ (U ++ (V ++ Q)) = P ++ (U.take j ++ (U.drop j ++ (V ++ Q))) := by rw [← List.append_assoc (U.take j), ← e1]
      have HSW := Lib.hid (swapr_parts g cap n p m j P (U.take j) (U.drop j) V Q wi (by rw [← e2]; exact E.out.2.2.2.1) eP (by omega) l1.symm (by omega) (by rw [← e2]; exact O.out) h6 F)
      have HN : Hid (i - j = (U.drop j).length ∧ j = (U.take j).length ∧ p + j = (P ++ V).length ∧ n = ((P ++ V) ++ (U.drop j ++ (U.take j ++ Q))).length ∧ (P ++ V) ++ (U.take j ++ (U.drop j ++ Q)) = A ++ (Y ++ (X ++ B))) := by
        refine ⟨l2.symm, l1.symm, by rw [List.length_append]; omega, by simp only [List.length_append]; omega, ?_⟩
        rw [← E.out.2.2.2.2, ← List.append_assoc (U.take j), ← e1, List.append_assoc]
      have HO2 : Hid ((P ++ (V ++ (U.drop j ++ (U.take j ++ Q)))) = ((P ++ V) ++ (U.drop j ++ (U.take j ++ Q)))) := (List.append_assoc _ _ _).symm
      have hji : 0 < i - j ∧ i - j ≤ n := by omega
      clear e1 e2 l1 l2 hl eU eV eP
      obtain ⟨d, hd⟩ : ∃ d, d = i - j := ⟨_, rfl⟩
      have HD := Lib.hid (show d + j = i by omega)
      rw [← hd] at n4 HN hji
      clear hd hgt hg hp
      go_wp2_with (go_at_call 111; refine HSW.out.mono ?_; rintro e w7 ⟨rfl, ho, hb⟩; rw [HO2.out] at ho; have O7 := Lib.hid ho; have B7 := Lib.hid (B'.out.trans hb); clear ho hb)
      go_roundg (d + j)
      case measure => have := HG.out; have := HD.out; omega
      case rel => exact ⟨d, j, p + j, P ++ V, U.drop j, U.take j, Q, rfl, rfl, rfl, by have := HD.out; have := HP.out; omega, hji.1, hj0, hji.2, hjn, HN.out, O7.out, B7.out⟩
end
end Go.Proofs.YticonpjkcocgeaaDoor
