/- Walks: the library's swapRange of passed balises. -/
import Derived.Test.YticonpjkcocgeaaDoorPMrg
import Derived.Test.YticonpjkcocgeaaDoorWReaB
import Derived.BigRegion
set_option linter.unusedVariables false
set_option linter.unusedSimpArgs false
set_option maxRecDepth 100000
namespace Go.Proofs.YticonpjkcocgeaaDoor
open Go.ChangeShapes Go.WideShapes Go.ChangeAt Go.RowKit
open Sg

theorem flat_set : ∀ {m : List Pas} {k : Nat} (p : Pas), k < m.length → ((m.flatMap Pc).set (k * 2) (.int .i64 p.place)).set (k * 2 + 1) (.int .i64 p.id) = (m.set k p).flatMap Pc
  | [], k, p, h => by simp at h
  | x :: r, 0, p, h => by simp [Pc]
  | x :: r, k + 1, p, h => by
    have ih := flat_set (m := r) (k := k) p (by simpa using h)
    have e1 : (k + 1) * 2 = k * 2 + 1 + 1 := by omega
    rw [List.set_cons_succ, List.flatMap_cons, List.flatMap_cons, ← ih, e1]
    show List.set (List.set (Value.int .i64 x.place :: Value.int .i64 x.id :: _) (k * 2 + 1 + 1) _) (k * 2 + 1 + 1 + 1) _ = _
    rw [List.set_cons_succ, List.set_cons_succ, List.set_cons_succ, List.set_cons_succ]
    rfl
theorem flat_lenP (m : List Pas) : (m.flatMap Pc).length = m.length * 2 := flat_len' Pc_len m
/-- Store of a balise into its place. -/
theorem set_pas {w : World} {g : Nat} {m : List Pas} {k : Nat} (p : Pas) (h : Own w g (m.flatMap Pc)) (hk : k < m.length) : Own ((w.setCell ⟨g, k * 2, none⟩ (.int .i64 p.place)).setCell ⟨g, k * 2 + 1, none⟩ (.int .i64 p.id)) g ((m.set k p).flatMap Pc) ∧ Only g w ((w.setCell ⟨g, k * 2, none⟩ (.int .i64 p.place)).setCell ⟨g, k * 2 + 1, none⟩ (.int .i64 p.id)) := by
  have hl := flat_lenP m
  rw [← flat_set p hk]
  exact ⟨(h.set (k * 2) (by omega) _).set (k * 2 + 1) (by rw [List.length_set]; omega) _, (Only.set _ _ _ _).trans (Only.set _ _ _ _)⟩
/-- An exchange of two. -/
theorem swap_pas {w : World} {g p q : Nat} {m : List Pas} (x y : Pas) (h : Own w g (m.flatMap Pc)) (hp : p < m.length) (hq : q < m.length) :
    ∃ w', w' = (((((w.setCell ⟨g, p * 2, none⟩ (.int .i64 y.place)).setCell ⟨g, p * 2 + 1, none⟩ (.int .i64 y.id)).setCell ⟨g, q * 2, none⟩ (.int .i64 x.place)).setCell ⟨g, q * 2 + 1, none⟩ (.int .i64 x.id)).drew) ∧ Own w' g (((m.set p y).set q x).flatMap Pc) ∧ Below g w w' := by
  have h1 := set_pas y h hp
  have h2 := set_pas x h1.1 (k := q) (by rw [List.length_set]; exact hq)
  exact ⟨_, rfl, h2.1.keep ((Below.refl _ _).drew), (Below.only (Below.only (Below.refl _ _) h1.2 (Nat.le_refl _)) h2.2 (Nat.le_refl _)).drew⟩
theorem pas_cells {w : World} {g : Nat} {m : List Pas} {k : Nat} {p : Pas} (h : Own w g (m.flatMap Pc)) (hk : m[k]? = some p) : g < w.heap.size ∧ w.cell? ⟨g, k * 2, none⟩ = some (.int .i64 p.place) ∧ w.cell? ⟨g, k * 2 + 1, none⟩ = some (.int .i64 p.id) := by
  have h0 := flat_at Pc_len m k 0 p _ hk (show (Pc p)[0]? = some (.int .i64 p.place) from rfl)
  have h1 := flat_at Pc_len m k 1 p _ hk (show (Pc p)[1]? = some (.int .i64 p.id) from rfl)
  exact ⟨h.1, h.2.1 _ _ h0, h.2.1 _ _ h1⟩
theorem szPas : (Tryd.prog.info? 90).map (·.size) = some 2 := by kernel_rfl
section
set_option maxHeartbeats 8000000
theorem swapr_any (g cap : Nat) (l : List Pas) (a b n : Nat) (w : World) (hO : Own w g (l.flatMap Pc)) (hab : a + n ≤ b) (hb : b + n ≤ l.length) (hm : l.length ≤ 1000000) (F : Value) :
    Calls Tryd.prog 111 #[.slice (some ⟨g, 0, none⟩) l.length cap, .int .i64 a, .int .i64 b, .int .i64 n, F] w fun e w' => e = .returned (.tuple #[]) ∧ ∃ m, Swp l a b n m ∧ Own w' g (m.flatMap Pc) ∧ Below g w w' := by
  have HO := Lib.hid hO
  clear hO
  go_enter Tryd.func111, Tryd.ntmps111
  go_wp2
  go_loopg [10] n (fun gg ix wr => ∃ (i : Nat) (m : List Pas), ix = .int .i64 i ∧ i ≤ n ∧ gg = n - i ∧ Hid (Swp l a b i m) ∧ Hid (Own wr g (m.flatMap Pc)) ∧ Hid (Below g w wr))
  case atStart => exact ⟨0, l, rfl, by omega, by omega, Swp.zero _ _ _, HO.out, Below.refl _ _⟩
  case round =>
    obtain ⟨wi, rfl⟩ : ∃ wi : World, wi = wr := ⟨_, rfl⟩
    obtain ⟨i, m, rfl, hi, hg, S, O, B⟩ := hrel
    have HG := Lib.hid hg
    clear hg
    have hlen := S.out.len
    by_cases hlt : i < n
    · have q0 : decide ((i : Int) < (n : Int)) = true := decide_eq_true (by omega)
      obtain ⟨p, hp⟩ : ∃ p, p = a + i := ⟨_, rfl⟩
      obtain ⟨q, hq⟩ : ∃ q, q = b + i := ⟨_, rfl⟩
      obtain ⟨x, hx⟩ : ∃ x, m[p]? = some x := ⟨_, List.getElem?_eq_getElem (by omega)⟩
      obtain ⟨y, hy⟩ : ∃ y, m[q]? = some y := ⟨_, List.getElem?_eq_getElem (by omega)⟩
      have HS : Hid (Swp l a b (i + 1) ((m.set p y).set q x)) := by subst hp hq; exact S.out.step (by omega) (by omega) hx hy
      obtain ⟨gz, c0, c1⟩ := pas_cells O.out hx
      obtain ⟨_, d0, d1⟩ := pas_cells O.out hy
      have n1 : IntKind.i64.wrap ((a : Int) + (i : Int)) = (p : Int) := by rw [IntWalk.i64_in _ (by omega)]; omega
      have n2 : IntKind.i64.wrap ((b : Int) + (i : Int)) = (q : Int) := by rw [IntWalk.i64_in _ (by omega)]; omega
      have i1 : p < l.length := by omega
      have i2 : q < l.length := by omega
      have HIQ : Hid (p < m.length ∧ q < (m.set p y).length) := ⟨by omega, by simp; omega⟩
      have hpq : p < q := by omega
      clear hp hq hx hy
      go_upto_region 3 with (fail)
      have a1 : p * 2 ≠ q * 2 := by omega
      have a2 : p * 2 + 1 ≠ q * 2 := by omega
      have a3 : p * 2 ≠ q * 2 + 1 := by omega
      have a4 : p * 2 + 1 ≠ q * 2 + 1 := by omega
      have f0 := O.out.2.2 (p * 2)
      have f1 := O.out.2.2 (p * 2 + 1)
      have f2 := O.out.2.2 (q * 2)
      have f3 := O.out.2.2 (q * 2 + 1)
      go_big_region
      obtain ⟨w9, hw, O9, B9⟩ := swap_pas x y O.out (show p < m.length by omega) (show q < m.length by omega)
      rw [← hw]
      have HO9 := Lib.hid O9
      have HB9 := Lib.hid (B.out.trans B9)
      clear hw O9 B9 a1 a2 a3 a4 f0 f1 f2 f3 c0 c1 d0 d1
      go_wp2
      go_roundg (n - (i + 1))
      case measure => have := HG.out; omega
      case rel => exact ⟨i + 1, _, by go_num, by omega, rfl, HS.out, HO9.out, HB9.out⟩
    · have q0 : decide ((i : Int) < (n : Int)) = false := decide_eq_false (by omega)
      have e : i = n := by omega
      subst e
      go_wp2
      go_end0
      exact ⟨rfl, m, S.out, O.out, B.out⟩
end
end Go.Proofs.YticonpjkcocgeaaDoor
