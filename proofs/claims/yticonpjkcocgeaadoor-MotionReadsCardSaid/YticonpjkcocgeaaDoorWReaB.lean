/- Walks: motion.Reads. -/
import Derived.Test.YticonpjkcocgeaaDoorWReaA
import Derived.Test.YticonpjkcocgeaaDoorWPas
import Derived.Test.YticonpjkcocgeaaDoorWChks
set_option linter.unusedVariables false
set_option linter.unusedSimpArgs false
set_option maxRecDepth 100000
namespace Go.Proofs.YticonpjkcocgeaaDoor
open Go.ChangeShapes Go.WideShapes Go.ChangeAt Go.RowKit
open Sg

/-- The library's stable sort is right for at most N passed balises. -/
def SortOk (N : Nat) : Prop := ∀ (base : Nat) (v : Value) (l : List Pas) (w : World), OwnL w base 90 2 Pc v l → l.length ≤ N →
  Calls Tryd.prog 35 #[v, .func (.func 36) #[] #[]] w fun e w' => e = .returned (.tuple #[]) ∧ (∃ A c, v = .slice A l.length c ∧ Rd w' A 2 Pc (sortP l)) ∧ Below base w w'
section
set_option maxHeartbeats 4000000
theorem isort_nil (w : World) : Calls Tryd.prog 93 #[.slice none 0 0, .int .i64 0, .int .i64 0, .func (.func 36) #[] #[]] w fun e w' => e = .returned (.tuple #[]) ∧ w = w' := by
  go_enter Tryd.func93, Tryd.ntmps93
  go_wp2
  go_loopg [8] 0 (fun g i wr => i = .int .i64 1 ∧ wr = w)
  case atStart => exact ⟨rfl, rfl⟩
  case round =>
    obtain ⟨rfl, rfl⟩ := hrel
    go_wp2
    go_end0
    exact ⟨rfl, rfl⟩
theorem stable_nil (w : World) : Calls Tryd.prog 65 #[.slice none 0 0, .int .i64 0, .func (.func 36) #[] #[]] w fun e w' => e = .returned (.tuple #[]) ∧ w = w' := by
  go_enter Tryd.func65, Tryd.ntmps65
  go_wp2
  go_loopg [7, 8] 0 (fun gg b c wr => b = .int .i64 0 ∧ c = .int .i64 20 ∧ wr = w)
  case atStart => exact ⟨rfl, rfl, rfl⟩
  case round =>
    obtain ⟨rfl, rfl, rfl⟩ := hrel
    go_wp2_with (go_at_call 93; refine (isort_nil _).mono ?_; rintro e w2 ⟨rfl, rfl⟩)
    go_loopg [6] 0 (fun gg a wr' => a = .int .i64 20 ∧ wr' = wr)
    case atStart => exact ⟨rfl, rfl⟩
    case round =>
      obtain ⟨rfl, rfl⟩ := hrel
      go_wp2
      go_end0
      exact ⟨rfl, rfl⟩
theorem sorts_nil (w : World) : Calls Tryd.prog 35 #[.slice none 0 0, .func (.func 36) #[] #[]] w fun e w' => e = .returned (.tuple #[]) ∧ w = w' := by
  go_enter Tryd.func35, Tryd.ntmps35
  go_wp2_with (go_at_call 65; refine (stable_nil _).mono ?_; rintro e w2 ⟨rfl, rfl⟩)
  go_end0
  exact ⟨rfl, rfl⟩
theorem sort_ok {N : Nat} (h : ∀ (g cap : Nat) (l : List Pas) (w : World), Own w g (l.flatMap Pc) → l.length ≤ N → l.length ≤ cap → Calls Tryd.prog 35 #[.slice (some ⟨g, 0, none⟩) l.length cap, .func (.func 36) #[] #[]] w fun e w' => e = .returned (.tuple #[]) ∧ Rd w' (some ⟨g, 0, none⟩) 2 Pc (sortP l) ∧ Below g w w') : SortOk N := by
  intro base v l w hO hl
  rcases hO.2 with ⟨h0, h1⟩ | ⟨g, cap, cur, h0, h1, h2, h3, h4, _⟩
  · obtain rfl : l = [] := List.eq_nil_of_length_eq_zero h1
    subst h0
    refine (sorts_nil w).mono ?_
    rintro e w' ⟨rfl, rfl⟩
    exact ⟨rfl, ⟨none, 0, rfl, Rd.nil⟩, Below.refl _ _⟩
  · subst h0
    have hlt := World.ownsRow.lt hO g rfl
    have hw : Own w g (l.flatMap Pc) := ⟨hlt.2, fun j u hj => by
      have := World.ownsRow.cells hO (g := g) rfl j u hj
      rw [add_plain, Nat.zero_add] at this
      exact this, fun j => World.ownsRow.frozenAt hO j⟩
    refine (h g cap l w hw hl (by omega)).mono ?_
    rintro e w' ⟨rfl, hr, hb⟩
    exact ⟨rfl, ⟨_, cap, rfl, hr⟩, hb.mono hlt.1⟩
theorem sort_few : SortOk 19 := sort_ok fun g cap l w hO hl _ => sorts_any g cap l w hO (by omega)
end
theorem inf_Pas : (Tryd.prog.info? 90).map (fun i => (i.zero, i.size, i.bytes)) = some (some (.agg #[.int .i64 0, .int .i64 0]), 2, 16) := by kernel_rfl
theorem inf_Rea : (Tryd.prog.info? 56).map (fun i => (i.zero, i.size, i.bytes)) = some (some (.agg #[.int .i64 0, .int .i64 0]), 2, 16) := by kernel_rfl
end Go.Proofs.YticonpjkcocgeaaDoor
