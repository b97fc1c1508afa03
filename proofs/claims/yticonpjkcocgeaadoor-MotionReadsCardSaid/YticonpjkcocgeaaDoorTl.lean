/- A slice of the call's own that begins anywhere in its block (a tail of a list that grows at its end). -/
import Derived.Test.YticonpjkcocgeaaDoorKAll
import Derived.ArgAppend
set_option linter.unusedVariables false
set_option linter.unusedSimpArgs false
namespace Go.Proofs.YticonpjkcocgeaaDoor
open Go.ChangeShapes Go.WideShapes Go.ChangeAt Go.RowKit

/-- The slice '.slice (some ⟨g, off, none⟩) xs.length cap' reads as xs, and may be written as far as its capacity goes. -/
structure Tl {α : Type} (w : World) (k : Nat) (enc : α → List Value) (g off cap : Nat) (xs : List α) : Prop where
  lt : g < w.heap.size
  le : xs.length ≤ cap
  room : ∀ j, j < cap * k → (w.cell? ⟨g, off + j, none⟩).isSome = true ∧ w.frozen? ⟨g, off + j, none⟩ = false
  at_ : ∀ (i : Nat) x, xs[i]? = some x → ∀ (j : Nat) u, (enc x)[j]? = some u → w.cell? ⟨g, off + i * k + j, none⟩ = some u
section
variable {α : Type} {w w' : World} {k g off cap : Nat} {enc : α → List Value} {xs : List α}
theorem Tl.rd (h : Tl w k enc g off cap xs) : Rd w (some ⟨g, off, none⟩) k enc xs := fun _ => ⟨g, off, rfl, h.lt, h.at_⟩
theorem Tl.block (h : Tl w k enc g off cap xs) (hs : w.heap.size ≤ w'.heap.size) (hb : w'.heap[g]? = w.heap[g]?) : Tl w' k enc g off cap xs :=
  ⟨Nat.lt_of_lt_of_le h.lt hs, h.le, fun j hj => by
    rw [World.cell?_of_block (w := w) (a := ⟨g, off + j, none⟩) hb, World.frozen?_of_block (w := w) (a := ⟨g, off + j, none⟩) hb]; exact h.room j hj,
   fun i x hx j u hu => (World.cell?_of_block (w := w) (a := ⟨g, off + i * k + j, none⟩) hb).trans (h.at_ i x hx j u hu)⟩
theorem Tl.keep (h : Tl w k enc g off cap xs) (hb : Below w.heap.size w w') : Tl w' k enc g off cap xs := h.block hb.size (hb.block g h.lt)
theorem Tl.only {b : Nat} (h : Tl w k enc g off cap xs) (ho : Only b w w') (hb : g ≠ b) : Tl w' k enc g off cap xs := h.block (by rw [ho.size]; exact Nat.le_refl _) (ho.block g hb)
theorem Tl.drop (h : Tl w k enc g off cap xs) (n : Nat) (hn : n ≤ xs.length) : Tl w k enc g (off + n * k) (cap - n) (xs.drop n) := by
  refine ⟨h.lt, by rw [List.length_drop]; have := h.le; omega, fun j hj => ?_, fun i x hx j u hu => ?_⟩
  · have hle := h.le
    have : n * k + j < cap * k := by
      have e : (cap - n) * k + n * k = cap * k := by rw [← Nat.add_mul]; congr 1; omega
      omega
    have := h.room (n * k + j) this
    rwa [← Nat.add_assoc] at this
  · rw [List.getElem?_drop] at hx
    have := h.at_ (n + i) x hx j u hu
    rw [Nat.add_mul] at this
    rw [← this]; congr 2; omega
theorem Tl.of_own {base : Nat} {e : TypeId} {v : Value} (h : OwnL w base e k enc v xs) (h0 : 0 < xs.length) (hk : ∀ x, (enc x).length = k) : ∃ g cap, v = .slice (some ⟨g, 0, none⟩) xs.length cap ∧ base ≤ g ∧ cap ≤ maxLen ∧ Tl w k enc g 0 cap xs := by
  rcases h.2 with ⟨_, h1⟩ | ⟨g, cap, cur, h1, h2, h3, h4, h5, h6, h7⟩
  · omega
  · subst h1
    have hg : g < w.heap.size := (World.ownsRow.lt h g rfl).2
    refine ⟨g, cap, rfl, h2, h5, hg, h4, fun j hj => ⟨?_, by rw [Nat.zero_add]; exact World.ownsRow.frozenAt h j⟩, fun i x hx j u hu => ?_⟩
    · rw [Nat.zero_add]
      have e : w.cell? ⟨g, j, none⟩ = cur[j]? := by simp [World.cell?, h3]
      rw [e, Array.getElem?_eq_getElem (by rw [h6]; exact hj)]
      rfl
    · rw [Nat.zero_add]
      have := World.ownsRow.cells h (g := g) rfl (i * k + j) u (flat_at hk xs i j x u hx hu)
      rw [add_plain, Nat.zero_add] at this
      exact this
theorem Own.grownT {b g : Nat} {vs : List Value} (h : Own w b vs) (hg : w.grownBy w' (some g)) (hb : b ≠ g) : Own w' b vs :=
  ⟨Nat.lt_of_lt_of_le h.1 hg.size, fun j v hj => (World.cell?_of_block (w := w) (a := ⟨b, j, none⟩) (hg.block b h.1 (by simp [hb]))).trans (h.2.1 j v hj), fun j => (World.frozen?_of_block (w := w) (a := ⟨b, j, none⟩) (hg.block b h.1 (by simp [hb]))).trans (h.2.2 j)⟩
theorem grow_ext {u : World} (h : Ext u w) (hg : w.grownBy w' (some g)) (hb : u.heap.size ≤ g) : Ext u w' := h.grown hg (esz h) (fun b hb' => by cases hb'; exact hb)
theorem heap_setCells (b : Nat) : ∀ (vs : List Value) (o : Nat) (w : World), (w.setCells b o vs).heap.size = w.heap.size ∧ (w.setCells b o vs).os = w.os ∧ (w.setCells b o vs).tape = w.tape ∧ (w.setCells b o vs).output = w.output ∧ ∀ i, i ≠ b → (w.setCells b o vs).heap[i]? = w.heap[i]?
  | [], _, w => ⟨rfl, rfl, rfl, rfl, fun _ _ => rfl⟩
  | v :: vs, o, w => by
    have ih := heap_setCells b vs (o + 1) (w.setCell ⟨b, o, none⟩ v)
    have h1 := Only.set w b o v
    exact ⟨ih.1.trans h1.size, ih.2.1.trans h1.os, ih.2.2.1.trans h1.tape, ih.2.2.2.1.trans h1.output, fun i hi => (ih.2.2.2.2 i hi).trans (h1.block i hi)⟩
theorem Tl.app (h : Tl w k enc g off cap xs) (y : α) (hk : ∀ x, (enc x).length = k) (hroom : xs.length + 1 ≤ cap) : Tl (w.setCells g (off + xs.length * k) (enc y)) k enc g off cap (xs ++ [y]) := by
  have hh := heap_setCells g (enc y) (off + xs.length * k) w
  have hin : ∀ j, j < (enc y).length → (w.cell? ⟨g, off + xs.length * k + j, none⟩).isSome = true := fun j hj => by
    rw [Nat.add_assoc]
    refine (h.room _ ?_).1
    rw [hk] at hj
    have : (xs.length + 1) * k ≤ cap * k := Nat.mul_le_mul_right _ hroom
    rw [Nat.add_mul] at this
    omega
  refine ⟨by rw [hh.1]; exact h.lt, by simpa using hroom, fun j hj => ⟨?_, by rw [World.frozen?_setCells]; exact (h.room j hj).2⟩, fun i x hx j u hu => ?_⟩
  · by_cases hc : xs.length * k ≤ j ∧ j < xs.length * k + k
    · have e : off + j = off + xs.length * k + (j - xs.length * k) := by omega
      rw [e, World.cell?_setCells_in g (enc y) (off + xs.length * k) w hin (j - xs.length * k) (by rw [hk]; omega)]
      rfl
    · rw [World.cell?_setCells_out g (enc y) _ w ⟨g, off + j, none⟩ (fun _ _ => by show off + j < _ ∨ _ ≤ off + j; rw [hk]; omega)]
      exact (h.room j hj).1
  · by_cases hi : i < xs.length
    · rw [List.getElem?_append_left hi] at hx
      have hj : j < k := by rw [← hk x]; exact (List.getElem?_eq_some_iff.1 hu).1
      have : (i + 1) * k ≤ xs.length * k := Nat.mul_le_mul_right _ hi
      rw [Nat.add_mul] at this
      rw [World.cell?_setCells_out g (enc y) _ w ⟨g, off + i * k + j, none⟩ (fun _ _ => .inl (by show off + i * k + j < _; omega))]
      exact h.at_ i x hx j u hu
    · have hl := (List.getElem?_eq_some_iff.1 hx).1
      simp at hl
      obtain rfl : i = xs.length := by omega
      obtain rfl : y = x := by simpa using hx
      obtain ⟨hj, rfl⟩ := List.getElem?_eq_some_iff.1 hu
      exact World.cell?_setCells_in g (enc y) (off + xs.length * k) w hin j hj
end
/-- append of one element that lies in a block of its own. -/
theorem wp_appT {α : Type} {P : Program} {u w : World} {ops : Array Oper} {rest : List Oper} {o : Oper} {a : Act} {Q : Exit → Act → World → Prop} {e : TypeId} {k bytes : Nat} {enc : α → List Value} {g off cap : Nat} {xs : List α} {t : TypeId} {i : TypeInfo} {z : Value} {s x : Operand}
    (hk : ∀ x, (enc x).length = k) (hone : ∀ x, ∀ u ∈ enc x, u.oneCell' = true) (ht : P.underlying t = some (.slice e)) (hi : P.info? e = some i) (hz : i.zero = some z) (hsize : i.size = k) (hby : i.bytes = bytes) (hzs : z.cells.size = k) (hsz : 0 < k)
    (hgd : o.guard = none) (ho : o.op = .call { callee := .builtin .append, args := #[s, x], argTypes := #[t, t] }) (hT : Tl w k enc g off cap xs) (hs : a.eval s = .slice (some ⟨g, off, none⟩) xs.length cap) (hg : u.heap.size ≤ g) (hE : Ext u w) (y : α) (b : Nat) (hx : a.eval x = .slice (some ⟨b, 0, none⟩) 1 1) (hb : CellsAt w b (enc y))
    (hlen : (xs.length + 1) * bytes ≤ 140737488355328) (hlen2 : xs.length + 1 ≤ maxLen)
    (h : ∀ (g' off' cap' : Nat) w', Hid (u.heap.size ≤ g' ∧ Tl w' k enc g' off' cap' (xs ++ [y]) ∧ Ext u w' ∧ w.grownBy w' (some g) ∧ (g' = g ∨ w.heap.size ≤ g')) → wpList P ops Q rest (a.put o.dst (.slice (some ⟨g', off', none⟩) (xs.length + 1) cap')) w') : wpList P ops Q (o :: rest) a w := by
  refine wpList_append_arg w hgd s x t ho e i z k bytes ht hi hz hsize hby hzs hsz g off xs.length cap (xs.flatMap enc) hs (flat_len' hk xs) (fun j u hj => ?_) ⟨b, 0, none⟩ 1 1 (enc y) hx (by rw [hk]; omega) (fun j u hj => ?_) (hone y) (fun hr j hj => ?_) hlen2 hlen (fun hr => ?_) (fun hr v' w' hv' hgr => ?_)
  · have := flat_cells hk hT.at_ hsz j u hj
    rwa [add_plain] at this
  · rw [add_plain, Nat.zero_add]; exact hb.2 j u hj
  · rw [Nat.add_assoc]
    refine hT.room _ ?_
    rw [hk] at hj
    have : (xs.length + 1) * k ≤ cap * k := Nat.mul_le_mul_right _ hr
    rw [Nat.add_mul] at this
    omega
  · have hh := heap_setCells g (enc y) (off + xs.length * k) w
    have hgb : w.grownBy (w.setCells g (off + xs.length * k) (enc y)) (some g) := ⟨hh.2.1, hh.2.2.1, hh.2.2.2.1, by rw [hh.1]; exact Nat.le_refl _, fun i _ hi => hh.2.2.2.2 i (fun e => hi (by rw [e]))⟩
    exact h g off cap _ ⟨hg, hT.app y hk hr, grow_ext hE hgb hg, hgb, .inl rfl⟩
  · have hown : OwnL w' w.heap.size e k enc v' (xs ++ [y]) := by
      unfold OwnL
      rw [List.flatMap_append, List.length_append]
      simpa using hv'
    obtain ⟨g', cap', rfl, h1, h2, h3⟩ := Tl.of_own hown (by simp) hk
    have hgb : w.grownBy w' (some g) := ⟨hgr.os, hgr.tape, hgr.output, hgr.size, fun i hi _ => hgr.block i hi (by simp)⟩
    have := h g' 0 cap' w' ⟨Nat.le_trans (esz hE) h1, h3, grow_ext hE hgb hg, hgb, .inr h1⟩
    simpa using this
end Go.Proofs.YticonpjkcocgeaaDoor
