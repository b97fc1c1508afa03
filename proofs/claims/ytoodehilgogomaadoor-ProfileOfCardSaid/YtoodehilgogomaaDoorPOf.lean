/- Plain mathematics of the profile of a way. No program in sight. -/
import Derived.Test.YtoodehilgogomaaDoorPLay
set_option linter.unusedVariables false
set_option linter.unusedSimpArgs false
namespace Sg

section
variable (neg : Int → Int)
/-- The gradient and the speed of a step (neg: how a number is negated). -/
def gradV (els : List Elm) (s : Stp) : Int := if fwdS els s = true then (elAt els s.el).grade else neg (elAt els s.el).grade
def spdB (els : List Elm) (s : Stp) : Bool := (elAt els s.el).kind == 2 && (s.in_ == 2 || s.out_ == 2)
def spdV (els : List Elm) (s : Stp) : Int := if spdB els s = true then (elAt els s.el).slow else (elAt els s.el).speed
def segO (els : List Elm) (s : Stp) (o : Int) : Sgm := ⟨o, o + (elAt els s.el).len, gradV neg els s, spdV els s⟩
def ofF (els : List Elm) : List Stp → Int → List Sgm
  | [], _ => []
  | s :: ss, o => segO neg els s o :: ofF els ss (o + (elAt els s.el).len)
theorem ofF_append (els : List Elm) : ∀ (a b : List Stp) (o : Int), ofF neg els (a ++ b) o = ofF neg els a o ++ ofF neg els b (a.foldl (fun a s => a + (elAt els s.el).len) o)
  | [], b, o => rfl
  | s :: a, b, o => by
    show segO neg els s o :: ofF neg els (a ++ b) (o + (elAt els s.el).len) = _
    rw [ofF_append els a b]; rfl
theorem ofF_len (els : List Elm) : ∀ (a : List Stp) (o : Int), (ofF neg els a o).length = a.length
  | [], o => rfl
  | s :: a, o => by show (ofF neg els a _).length + 1 = _; rw [ofF_len els a]; rfl
def ofTo (els : List Elm) (way : List Stp) (o : Int) (k : Nat) : List Sgm := ofF neg els (way.take k) o
theorem ofTo_succ {els : List Elm} {way : List Stp} {o : Int} {k : Nat} {s : Stp} (h : way[k]? = some s) : ofTo neg els way o (k + 1) = ofTo neg els way o k ++ [segO neg els s (begF els way o k)] := by
  obtain ⟨hl, rfl⟩ := List.getElem?_eq_some_iff.1 h
  unfold ofTo
  rw [List.take_succ_eq_append_getElem hl, ofF_append]
  rfl
theorem ofF_at {els : List Elm} {way : List Stp} {o : Int} {k : Nat} {s : Stp} (h : way[k]? = some s) : (ofF neg els way o)[k]? = some (segO neg els s (begF els way o k)) := by
  have hl := (List.getElem?_eq_some_iff.1 h).1
  have e : way = way.take k ++ way.drop k := (List.take_append_drop k way).symm
  have hd : way.drop k = s :: way.drop (k + 1) := by
    rw [List.drop_eq_getElem_cons hl]
    congr 1
    exact (List.getElem?_eq_some_iff.1 h).2
  have e2 : ofF neg els way o = ofF neg els (way.take k) o ++ ofF neg els (way.drop k) (begF els way o k) := by
    conv => lhs; rw [e]
    rw [ofF_append]; rfl
  have hlen : (ofF neg els (way.take k) o).length = k := by rw [ofF_len, List.length_take]; omega
  rw [e2, List.getElem?_append_right (by omega), hlen, Nat.sub_self, hd]
  rfl
def OfOk (els : List Elm) (way : List Stp) : Prop := ∀ (k : Nat) s, way[k]? = some s → StepOk els s
open Classical in
noncomputable def ofL (els : List Elm) (way : List Stp) (o : Int) : List Sgm := if way.length ≤ 128 ∧ -1073741824 ≤ o ∧ o ≤ 1073741824 ∧ OfOk els way ∧ Valid (ofF neg els way o) then ofF neg els way o else []
theorem ofL_no {els : List Elm} {way : List Stp} {o : Int} (h : ¬ (way.length ≤ 128 ∧ -1073741824 ≤ o ∧ o ≤ 1073741824 ∧ OfOk els way ∧ Valid (ofF neg els way o))) : ofL neg els way o = [] := by unfold ofL; rw [if_neg h]
theorem ofL_long {els : List Elm} {way : List Stp} {o : Int} (h : 128 < way.length) : ofL neg els way o = [] := ofL_no neg (fun g => by have := g.1; omega)
theorem ofL_step {els : List Elm} {way : List Stp} {o : Int} {k : Nat} {s : Stp} (hs : way[k]? = some s) (h : ¬ StepOk els s) : ofL neg els way o = [] := ofL_no neg (fun g => h (g.2.2.2.1 k s hs))
theorem ofL_coord {els : List Elm} {way : List Stp} {o : Int} {k : Nat} {s : Stp} (hs : way[k]? = some s) (h : ¬ (-1073741824 ≤ begF els way o k ∧ begF els way o k ≤ 1073741824)) : ofL neg els way o = [] := ofL_no neg (fun g => by
  have h1 := ofF_at neg (o := o) (els := els) hs
  have hl := (List.getElem?_eq_some_iff.1 h1).1
  have h2 := (g.2.2.2.2.2 k hl).1
  rw [getD_of h1] at h2
  obtain ⟨a1, a2, a3, _⟩ := h2
  have b1 : (segO neg els s (begF els way o k)).from_ = begF els way o k := rfl
  rw [b1] at a1 a2
  exact h ⟨a1, by omega⟩)
theorem ofL_inv {els : List Elm} {way : List Stp} {o : Int} (h : ¬ Valid (ofF neg els way o)) : ofL neg els way o = [] := ofL_no neg (fun g => h g.2.2.2.2)
theorem ofL_out {els : List Elm} {way : List Stp} {o : Int} (h : ¬ (-1073741824 ≤ o ∧ o ≤ 1073741824)) : ofL neg els way o = [] := ofL_no neg (fun g => h ⟨g.2.1, g.2.2.1⟩)
theorem ofL_yes {els : List Elm} {way : List Stp} {o : Int} (h1 : way.length ≤ 128) (h2 : way = [] ∨ (-1073741824 ≤ o ∧ o ≤ 1073741824)) (h3 : OfOk els way) (h4 : Valid (ofF neg els way o)) : ofL neg els way o = ofF neg els way o := by
  by_cases h : -1073741824 ≤ o ∧ o ≤ 1073741824
  · unfold ofL; rw [if_pos ⟨h1, h.1, h.2, h3, h4⟩]
  · rcases h2 with rfl | h2
    · rw [ofL_out neg h]; rfl
    · exact absurd h2 h
theorem ofL_valid {els : List Elm} {way : List Stp} {o : Int} : Valid (ofL neg els way o) := by
  unfold ofL
  split
  · rename_i h; exact h.2.2.2.2
  · exact ⟨by simp, fun i hi => by simp at hi⟩
theorem ofL_len {els : List Elm} {way : List Stp} {o : Int} : (ofL neg els way o).length ≤ 128 := (ofL_valid neg).1
end
end Sg
