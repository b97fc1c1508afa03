/- Slices of the call's own, of whatever elements: append of one element, what they read as. -/
import Derived.Test.YtbgmknkmfhpgeaaDoorRd
import Derived.Maps.AppendAt
import Derived.Laws.OwnMore
set_option linter.unusedVariables false
set_option linter.unusedSimpArgs false
namespace Go.Proofs.YtbgmknkmfhpgeaaDoor
open Go.ChangeShapes Go.WideShapes Go.ChangeAt Go.RowKit

/-- The slice value v owns the elements xs (of type e, k cells each) in a block from base on. -/
def OwnL {α : Type} (w : World) (base : Nat) (e : TypeId) (k : Nat) (enc : α → List Value) (v : Value) (xs : List α) : Prop := w.ownsRow base e k v xs.length (xs.flatMap enc)
section
variable {α : Type} {w w' : World} {base : Nat} {e : TypeId} {k : Nat} {enc : α → List Value} {v : Value} {xs : List α}
theorem OwnL.nil : OwnL w base e k enc (.slice none 0 0) ([] : List α) := World.ownsRow_nil _ _ _ _
theorem OwnL.keep (h : OwnL w base e k enc v xs) (hb : Below w.heap.size w w') : OwnL w' base e k enc v xs := by
  refine ⟨h.1, ?_⟩
  rcases h.2 with h0 | ⟨g, cap, cur, rfl, h1, h2, h3⟩
  · exact .inl h0
  · have hg : g < w.heap.size := by
      rcases Nat.lt_or_ge g w.heap.size with hl | hl
      · exact hl
      · rw [Array.getElem?_eq_none hl] at h2; cases h2
    exact .inr ⟨g, cap, cur, rfl, h1, by rw [hb.block g hg]; exact h2, h3⟩
theorem OwnL.only {b : Nat} (h : OwnL w base e k enc v xs) (ho : Only b w w') (hb : v.ownBlock ≠ some b) : OwnL w' base e k enc v xs := by
  refine ⟨h.1, ?_⟩
  rcases h.2 with h0 | ⟨g, cap, cur, rfl, h1, h2, h3⟩
  · exact .inl h0
  · exact .inr ⟨g, cap, cur, rfl, h1, by rw [ho.block g (by intro e; subst e; exact hb rfl)]; exact h2, h3⟩
theorem OwnL.lt (h : OwnL w base e k enc v xs) : ∀ b, v.ownBlock = some b → base ≤ b ∧ b < w.heap.size := World.ownsRow.lt h
theorem flat_at (hk : ∀ x, (enc x).length = k) : ∀ (xs : List α) (i j : Nat) (x : α) (u : Value), xs[i]? = some x → (enc x)[j]? = some u → (xs.flatMap enc)[i * k + j]? = some u
  | [], i, j, x, u, hi, _ => by simp at hi
  | y :: ys, 0, j, x, u, hi, hj => by
    simp at hi; subst hi
    have hl : j < (enc y).length := (List.getElem?_eq_some_iff.1 hj).1
    simp only [List.flatMap_cons]
    rw [List.getElem?_append_left (by omega)]
    simpa using hj
  | y :: ys, i + 1, j, x, u, hi, hj => by
    have h := flat_at hk ys i j x u (by simpa using hi) hj
    simp only [List.flatMap_cons]
    have e : (i + 1) * k + j = k + (i * k + j) := by rw [Nat.succ_mul]; omega
    rw [e, List.getElem?_append_right (by rw [hk]; omega), hk]
    simpa using h
theorem OwnL.rd (hk : ∀ x, (enc x).length = k) (h : OwnL w base e k enc v xs) : ∃ A cap, v = .slice A xs.length cap ∧ Rd w A k enc xs ∧ xs.length ≤ maxLen := by
  rcases h.2 with ⟨h0, h1⟩ | ⟨g, cap, cur, h0, h1, h2, h3, h4, _⟩
  · have : xs = [] := List.eq_nil_of_length_eq_zero h1
    subst this
    exact ⟨none, 0, h0, Rd.nil, by simp⟩
  · refine ⟨some ⟨g, 0, none⟩, cap, h0, fun _ => ⟨g, 0, rfl, (World.ownsRow.lt h g (by rw [h0]; rfl)).2, fun i x hi j u hj => ?_⟩, by omega⟩
    have hb : v.ownBlock = some g := by rw [h0]; rfl
    have := World.ownsRow.cells h hb (i * k + j) u (flat_at hk xs i j x u hi hj)
    rw [add_plain] at this
    rw [← this]; congr 2; omega
theorem CellsAt.grown {b : Nat} {vs : List Value} {row : Option Nat} (h : CellsAt w b vs) (hg : w.grownBy w' row) (hb : row ≠ some b) : CellsAt w' b vs :=
  ⟨Nat.lt_of_lt_of_le h.1 hg.size, fun j u hj => (World.cell?_of_block (w := w) (a := ⟨b, j, none⟩) (hg.block b h.1 (fun e => hb e.symm))).trans (h.2 j u hj)⟩
theorem OwnL.app_below {B : Nat} {u : World} (hb : Below B u w) (hB : B ≤ w.heap.size) (hv : ∀ b, v.ownBlock = some b → B ≤ b) (hg : w.grownBy w' v.ownBlock) : Below B u w' := hb.grown hg hB hv
end
/-- append of one element that lies in a block of its own. -/
theorem wp_app1 {α : Type} {P : Program} {w : World} {ops : Array Oper} {rest : List Oper} {o : Oper} {a : Act} {Q : Exit → Act → World → Prop} {base : Nat} {e : TypeId} {k bytes : Nat} {enc : α → List Value} {v : Value} {xs : List α} {t : TypeId} {i : TypeInfo} {z : Value} {s x : Operand}
    (hk : ∀ x, (enc x).length = k) (hone : ∀ x, ∀ u ∈ enc x, u.oneCell' = true) (ht : P.underlying t = some (.slice e)) (hi : P.info? e = some i) (hz : i.zero = some z) (hsize : i.size = k) (hby : i.bytes = bytes) (hzs : z.cells.size = k) (hsz : 0 < k)
    (hgd : o.guard = none) (ho : o.op = .call { callee := .builtin .append, args := #[s, x], argTypes := #[t, t] }) (hs : a.eval s = v) (hown : OwnL w base e k enc v xs) (y : α) (b : Nat) (hx : a.eval x = .slice (some ⟨b, 0, none⟩) 1 1) (hb : CellsAt w b (enc y))
    (hlen : (xs.length + 1) * bytes ≤ 140737488355328) (hlen2 : xs.length + 1 ≤ maxLen) (hbase : base ≤ w.heap.size)
    (h : ∀ v' w', OwnL w' base e k enc v' (xs ++ [y]) → w.grownBy w' v.ownBlock → (v'.ownBlock = v.ownBlock ∨ v'.ownBlock = some w.heap.size) → wpList P ops Q rest (a.put o.dst v') w') : wpList P ops Q (o :: rest) a w := by
  refine wpList_append_own_at w hgd s x t ho base e i z k bytes ht hi hz hsize hby hzs hsz v xs.length (xs.flatMap enc) hs hown ⟨b, 0, none⟩ 1 1 (enc y) hx (by rw [hk]; omega) (fun j u hj => ?_) (hone y) hlen2 hlen hbase (fun v' w' h1 h2 _ h4 => h v' w' ?_ h2 h4)
  · rw [add_plain, Nat.zero_add]; exact hb.2 j u hj
  · unfold OwnL
    simpa using h1
end Go.Proofs.YtbgmknkmfhpgeaaDoor
