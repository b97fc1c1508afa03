/- Walks: Joined (the code's and the reference's). -/
import Derived.Test.YtoodehilgogomaaDoorWLayB
set_option linter.unusedVariables false
set_option linter.unusedSimpArgs false
set_option maxRecDepth 100000
namespace Go.Proofs.YtoodehilgogomaaDoor
open Go.ChangeShapes Go.WideShapes Go.ChangeAt Go.RowKit
open Sg

theorem no_pair {a b c d : Int} (h : ¬ (a = c ∧ b = d)) : (a == c) = false ∨ ((a == c) = true ∧ (b == d) = false) := by
  by_cases q : a = c
  · refine .inr ⟨by simp [q], ?_⟩
    have : ¬ b = d := fun e => h ⟨q, e⟩
    simpa using this
  · exact .inl (by simpa using q)
/-- The end's box, and the result's variable. -/
def JBox (n : Nat) (e : Sg.End) (wr : World) : Prop := n + 1 + 1 < wr.heap.size ∧ wr.cell? ⟨n + 1, 0, none⟩ = some (.int .i64 e.el) ∧ wr.cell? ⟨n + 1, 1, none⟩ = some (.int .i64 e.side) ∧ wr.cell? ⟨n + 1 + 1, 0, none⟩ = some (.int .i64 0) ∧ wr.cell? ⟨n + 1 + 1, 1, none⟩ = some (.int .i64 0) ∧ wr.frozen? ⟨n + 1 + 1, 0, none⟩ = false ∧ wr.frozen? ⟨n + 1 + 1, 1, none⟩ = false
theorem JBox.keep {n : Nat} {e : Sg.End} {u w : World} (h : JBox n e u) (hx : Ext u w) : JBox n e w := by
  obtain ⟨h0, h1, h2, h3, h4, h5, h6⟩ := h
  refine ⟨Nat.lt_of_lt_of_le h0 hx.size, (hx.cell (p := ⟨n + 1, 0, none⟩) (by show n + 1 < _; omega)).trans h1, (hx.cell (p := ⟨n + 1, 1, none⟩) (by show n + 1 < _; omega)).trans h2, (hx.cell (p := ⟨n + 1 + 1, 0, none⟩) h0).trans h3, (hx.cell (p := ⟨n + 1 + 1, 1, none⟩) h0).trans h4, (hx.frozen (p := ⟨n + 1 + 1, 0, none⟩) h0).trans h5, (hx.frozen (p := ⟨n + 1 + 1, 1, none⟩) h0).trans h6⟩
set_option maxHeartbeats 8000000 in
theorem rjoined_any (L : Lay) (e : Sg.End) (w : World) (hL : LayOk w L) : Calls Tryd.prog 33 #[.agg #[.string L.name, .slice L.aS L.secs.length L.cS, .slice L.aE L.els.length L.cE, .slice L.aJ L.jts.length L.cJ, .slice L.aG L.sgs.length L.cG, .slice L.aB L.bals.length L.cB], .agg #[.int .i64 e.el, .int .i64 e.side]] w fun r w' => r = .returned (.tuple #[.agg #[.int .i64 (joinV L.jts e).el, .int .i64 (joinV L.jts e).side], .bool (joinB L.jts e)]) ∧ Below w.heap.size w w' := by
  have HR := Lib.hid hL.hJ
  have hm := hL.lJ
  unfold maxLen at hm
  clear hL
  go_enter Tryd.func33, Tryd.ntmps33
  go_wp2
  go_loopg [11] L.jts.length (fun g ix wr => ∃ k : Nat, ix = .int .i64 k ∧ k ≤ L.jts.length ∧ g = L.jts.length - k ∧ Hid (Ext w wr ∧ JBox w.heap.size e wr ∧ joinO (L.jts.drop k) e = joinO L.jts e))
  case atStart => exact ⟨0, rfl, by omega, rfl, eal (eal (eal (Ext.refl _) _) _) _, ⟨by simp, by simp [go_sem], by simp [go_sem], by simp [go_sem], by simp [go_sem], by simp [go_sem], by simp [go_sem]⟩, rfl⟩
  case round =>
    obtain ⟨k, rfl, hk, hg, H⟩ := hrel
    have HG := Lib.hid hg
    clear hg
    by_cases hlt : k < L.jts.length
    · obtain ⟨b, off, j, hA, hs, hbs, c0, c1, c2, c3⟩ := rd_jt HR.out H.out.1 hlt
      have hJ := joinO_drop hs e
      rw [H.out.2.2] at hJ
      obtain ⟨g0, g1, g2, g3, g4, g5, g6⟩ := H.out.2.1
      have g7 : w.heap.size + 1 < wr.heap.size := by omega
      clear hs
      by_cases qa : j.ae = e.el ∧ j.as_ = e.side
      · rw [if_pos qa] at hJ
        have HJ := Lib.hid hJ
        have a1 : (j.ae == e.el) = true := by simp [qa.1]
        have a2 : (j.as_ == e.side) = true := by simp [qa.2]
        clear qa hJ
        rw [hA]
        clear hA
        go_wp2
        (try simp only [Exit.inBlock, Exit.then])
        exact bodyPost_ret (v := .tuple #[.agg #[.int .i64 (joinV L.jts e).el, .int .i64 (joinV L.jts e).side], .bool (joinB L.jts e)]) (by rw [joinV, joinB, HJ.out]; simp [results, Tryd.results33, go_sem, g0, g3, g4, g5, g6, g7]) rfl ⟨rfl, eal (eset (eset H.out.1 (by omega) _ _) (by omega) _ _) _⟩
      · rw [if_neg qa] at hJ
        have ka := no_pair qa
        clear qa
        by_cases qb : j.be = e.el ∧ j.bs = e.side
        · rw [if_pos qb] at hJ
          have HJ := Lib.hid hJ
          have b1 : (j.be == e.el) = true := by simp [qb.1]
          have b2 : (j.bs == e.side) = true := by simp [qb.2]
          clear qb hJ
          rw [hA]
          clear hA
          rcases ka with a1 | ⟨a1, a2⟩
          all_goals go_wp2
          all_goals (try simp only [Exit.inBlock, Exit.then])
          all_goals exact bodyPost_ret (v := .tuple #[.agg #[.int .i64 (joinV L.jts e).el, .int .i64 (joinV L.jts e).side], .bool (joinB L.jts e)]) (by rw [joinV, joinB, HJ.out]; simp [results, Tryd.results33, go_sem, g0, g3, g4, g5, g6, g7]) rfl ⟨rfl, eal (eset (eset H.out.1 (by omega) _ _) (by omega) _ _) _⟩
        · rw [if_neg qb] at hJ
          have HJ := Lib.hid hJ.symm
          have kb := no_pair qb
          clear qb hJ
          rw [hA]
          have HA := Lib.hid hA
          clear hA
          have HX : Hid (JBox w.heap.size e wr) := ⟨g0, g1, g2, g3, g4, g5, g6⟩
          rcases ka with a1 | ⟨a1, a2⟩ <;> rcases kb with b1 | ⟨b1, b2⟩
          all_goals go_wp2
          all_goals rw [← HA.out]
          all_goals go_roundg (L.jts.length - (k + 1))
          all_goals first | (have := HG.out; omega) | exact ⟨k + 1, by go_num, by omega, rfl, eal H.out.1 _, HX.out.keep (eal (Ext.refl _) _), HJ.out⟩
    · have HJ : Hid (joinO L.jts e = none) := by
        have := H.out.2.2
        rw [List.drop_eq_nil_of_le (by omega)] at this
        exact this.symm
      obtain ⟨g0, g1, g2, g3, g4, g5, g6⟩ := H.out.2.1
      have g7 : w.heap.size + 1 < wr.heap.size := by omega
      go_wp2
      (try simp only [Exit.inBlock, Exit.then])
      exact bodyPost_ret (v := .tuple #[.agg #[.int .i64 (joinV L.jts e).el, .int .i64 (joinV L.jts e).side], .bool (joinB L.jts e)]) (by rw [joinV, joinB, HJ.out]; simp [results, Tryd.results33, go_sem, g0, g3, g4, g5, g6, g7]) rfl ⟨rfl, eset (eset H.out.1 (by omega) _ _) (by omega) _ _⟩
end Go.Proofs.YtoodehilgogomaaDoor
