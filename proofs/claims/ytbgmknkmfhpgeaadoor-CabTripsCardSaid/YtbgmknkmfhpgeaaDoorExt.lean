/- Worlds that extend a world: short words; append of one element beside other blocks. -/
import Derived.Test.YtbgmknkmfhpgeaaDoorOwn
import Derived.Test.YtbgmknkmfhpgeaaDoorMono
import Derived.Laws.Strings
set_option linter.unusedVariables false
set_option linter.unusedSimpArgs false
namespace Go.Proofs.YtbgmknkmfhpgeaaDoor
open Go.ChangeShapes Go.WideShapes Go.ChangeAt Go.RowKit

theorem str_eq {a b : ByteArray} (h : a.toList = b.toList) : a = b := by
  rw [ByteArray.toList_eq, ByteArray.toList_eq] at h
  cases a; cases b; simp at h; simp [h]
section
variable {u v w w' : World}
theorem eal (h : Ext u w) (o : Obj) : Ext u (w.alloc o) := Below.alloc h (Below.size h) o
theorem edr (h : Ext u w) : Ext u w.drew := Below.drew h
theorem etr (h : Ext u v) (g : Ext v w) : Ext u w := Ext.trans h g
theorem eset (h : Ext u w) {b : Nat} (hb : u.heap.size ≤ b) (o : Nat) (x : Value) : Ext u (w.setCell ⟨b, o, none⟩ x) := Below.setCell h hb x
theorem eonly {b : Nat} (h : Ext u w) (g : Only b w w') (hb : u.heap.size ≤ b) : Ext u w' := Below.only h g hb
theorem eafter (h : Ext u w) (y : After w) : Ext u y.val := etr h y.is
theorem esz (h : Ext u w) : u.heap.size ≤ w.heap.size := Below.size h
end
/-- Blocks that are written out read as lists. -/
theorem rd_cells {α : Type} {w : World} {b k : Nat} {enc : α → List Value} {xs : List α} (hk : ∀ x, (enc x).length = k) (h : CellsAt w b (xs.flatMap enc)) : Rd w (some ⟨b, 0, none⟩) k enc xs := fun _ =>
  ⟨b, 0, rfl, h.1, fun i x hi j v hj => by rw [Nat.zero_add]; exact h.2 _ _ (flat_at hk xs i j x v hi hj)⟩
/-- append of one element that lies in a block of its own. -/
theorem wp_appE {α : Type} {P : Program} {u w : World} {ops : Array Oper} {rest : List Oper} {o : Oper} {a : Act} {Q : Exit → Act → World → Prop} {e : TypeId} {k bytes : Nat} {enc : α → List Value} {v : Value} {xs : List α} {t : TypeId} {i : TypeInfo} {z : Value} {s x : Operand}
    (hk : ∀ x, (enc x).length = k) (hone : ∀ x, ∀ u ∈ enc x, u.oneCell' = true) (ht : P.underlying t = some (.slice e)) (hi : P.info? e = some i) (hz : i.zero = some z) (hsize : i.size = k) (hby : i.bytes = bytes) (hzs : z.cells.size = k) (hsz : 0 < k)
    (hgd : o.guard = none) (ho : o.op = .call { callee := .builtin .append, args := #[s, x], argTypes := #[t, t] }) (hs : a.eval s = v) (hown : OwnL w u.heap.size e k enc v xs) (hE : Ext u w) (y : α) (b : Nat) (hx : a.eval x = .slice (some ⟨b, 0, none⟩) 1 1) (hb : CellsAt w b (enc y))
    (hlen : (xs.length + 1) * bytes ≤ 140737488355328) (hlen2 : xs.length + 1 ≤ maxLen)
    (h : ∀ v' w', Hid (OwnL w' u.heap.size e k enc v' (xs ++ [y]) ∧ Ext u w' ∧ ∀ c vs, v.ownBlock ≠ some c → CellsAt w c vs → CellsAt w' c vs ∧ v'.ownBlock ≠ some c) → wpList P ops Q rest (a.put o.dst v') w') : wpList P ops Q (o :: rest) a w := by
  refine wp_app1 hk hone ht hi hz hsize hby hzs hsz hgd ho hs hown y b hx hb hlen hlen2 (esz hE) fun v' w' h1 h2 h3 => h v' w' ⟨h1, OwnL.app_below hE (esz hE) (fun b hb => (hown.lt b hb).1) h2, fun c vs hc hcs => ⟨hcs.grown h2 hc, ?_⟩⟩
  rcases h3 with h3 | h3
  · rw [h3]; exact hc
  · rw [h3]; intro e; have := hcs.1; simp at e; omega
theorem OwnL.mono {α : Type} {w : World} {b b' : Nat} {e : TypeId} {k : Nat} {enc : α → List Value} {v : Value} {xs : List α} (h : OwnL w b e k enc v xs) (hb : b' ≤ b) : OwnL w b' e k enc v xs := by
  refine ⟨h.1, ?_⟩
  rcases h.2 with h0 | ⟨g, cap, cur, rfl, h1, h2⟩
  · exact .inl h0
  · exact .inr ⟨g, cap, cur, rfl, Nat.le_trans hb h1, h2⟩
theorem OwnL.form {α : Type} {w : World} {base : Nat} {e : TypeId} {k : Nat} {enc : α → List Value} {v : Value} {xs : List α} (h : OwnL w base e k enc v xs) (h0 : 0 < xs.length) :
    ∃ g cap, v = .slice (some ⟨g, 0, none⟩) xs.length cap ∧ xs.length ≤ cap ∧ base ≤ g ∧ Own w g (xs.flatMap enc) := by
  rcases h.2 with ⟨_, h1⟩ | ⟨g, cap, cur, h1, h2, h3, h4, h5⟩
  · omega
  · subst h1
    refine ⟨g, cap, rfl, h4, h2, (World.ownsRow.lt h g rfl).2, fun j v hj => ?_, fun j => World.ownsRow.frozenAt h j⟩
    have := World.ownsRow.cells h (g := g) rfl j v hj
    rw [add_plain, Nat.zero_add] at this
    exact this
theorem CellsAt.low {w w' : World} {b : Nat} {vs : List Value} (h : CellsAt w b vs) (hb : Ext w w') : CellsAt w' b vs := h.keep hb
theorem Rd.grown {α : Type} {w w' : World} {A : Option Addr} {k : Nat} {enc : α → List Value} {xs : List α} {row : Option Nat} (h : Rd w A k enc xs) (hg : w.grownBy w' row) (hne : ∀ a, A = some a → row ≠ some a.block) : Rd w' A k enc xs := fun h0 => by
  obtain ⟨b, off, e, h1, h2⟩ := h h0
  exact ⟨b, off, e, Nat.lt_of_lt_of_le h1 hg.size, fun i x hi j v hj => (World.cell?_of_block (w := w) (a := ⟨b, off + i * k + j, none⟩) (hg.block b h1 (fun e2 => hne _ e e2.symm))).trans (h2 i x hi j v hj)⟩
theorem run_append_of_nil {P : Program} (w : World) (base : Nat) (t ty e : TypeId) (i : TypeInfo) (size : Nat) (ht : P.underlying t = some (.slice e)) (hi : P.info? e = some i)
    (v : Value) (n : Nat) (xs : List Value) (hown : w.ownsRow base e size v n xs) (c : Nat) : (Builtin.append_ #[t, t] ty #[v, .slice none 0 c]).run P w = .ok v w := by
  rcases hown.2 with ⟨rfl, rfl⟩ | ⟨g, cap, cur, rfl, _, _, hnc, _⟩
  · simp [Builtin.append_, run_underlying ht, sizeOf, typeInfo, hi, Builtin.lenOf, Builtin.firstCells]
  · simp [Builtin.append_, run_underlying ht, sizeOf, typeInfo, hi, Builtin.lenOf, Builtin.firstCells, hnc, storeCells]
theorem flat_one {α : Type} {enc : α → List Value} (hone : ∀ x, ∀ u ∈ enc x, u.oneCell' = true) (ys : List α) : ∀ u ∈ ys.flatMap enc, u.oneCell' = true := fun u hu => by
  obtain ⟨x, _, hx⟩ := List.mem_flatMap.1 hu
  exact hone x u hx
theorem flat_len' {α : Type} {enc : α → List Value} {k : Nat} (hk : ∀ x, (enc x).length = k) : ∀ ys : List α, (ys.flatMap enc).length = ys.length * k
  | [] => by simp
  | y :: ys => by rw [List.flatMap_cons, List.length_append, hk, flat_len' hk ys, List.length_cons, Nat.succ_mul]; omega
theorem flat_cells {α : Type} {w : World} {b off k : Nat} {enc : α → List Value} (hk : ∀ x, (enc x).length = k) {ys : List α} (h : ∀ i x, ys[i]? = some x → ∀ j v, (enc x)[j]? = some v → w.cell? ⟨b, off + i * k + j, none⟩ = some v) (hk0 : 0 < k) :
    ∀ j u, (ys.flatMap enc)[j]? = some u → w.cell? ((⟨b, off, none⟩ : Addr).add j) = some u := by
  intro j u hj
  rw [add_plain]
  have hl : j < ys.length * k := by have := (List.getElem?_eq_some_iff.1 hj).1; rwa [flat_len' hk] at this
  have hi : j / k < ys.length := Nat.div_lt_of_lt_mul (by rw [Nat.mul_comm]; exact hl)
  obtain ⟨x, hx⟩ : ∃ x, ys[j / k]? = some x := ⟨_, List.getElem?_eq_getElem hi⟩
  have hm : j % k < k := Nat.mod_lt _ hk0
  obtain ⟨v, hv⟩ : ∃ v, (enc x)[j % k]? = some v := ⟨_, List.getElem?_eq_getElem (by rw [hk]; exact hm)⟩
  have e := flat_at hk ys (j / k) (j % k) x v hx hv
  have e2 : j / k * k + j % k = j := by rw [Nat.mul_comm]; exact Nat.div_add_mod j k
  rw [e2, hj] at e
  cases e
  have := h _ _ hx _ _ hv
  rwa [Nat.add_assoc, e2] at this
/-- append of a list that is read elsewhere. -/
theorem wp_appL {α : Type} {P : Program} {u w : World} {ops : Array Oper} {rest : List Oper} {o : Oper} {a : Act} {Q : Exit → Act → World → Prop} {e : TypeId} {k bytes : Nat} {enc : α → List Value} {v : Value} {xs : List α} {t : TypeId} {i : TypeInfo} {z : Value} {s x : Operand}
    (hk : ∀ x, (enc x).length = k) (hone : ∀ x, ∀ u ∈ enc x, u.oneCell' = true) (ht : P.underlying t = some (.slice e)) (hi : P.info? e = some i) (hz : i.zero = some z) (hsize : i.size = k) (hby : i.bytes = bytes) (hzs : z.cells.size = k) (hsz : 0 < k)
    (hgd : o.guard = none) (ho : o.op = .call { callee := .builtin .append, args := #[s, x], argTypes := #[t, t] }) (hs : a.eval s = v) (hown : OwnL w u.heap.size e k enc v xs) (hE : Ext u w) (ys : List α) (A : Option Addr) (c : Nat) (hx : a.eval x = .slice A ys.length c) (hr : Rd w A k enc ys)
    (hlen : (xs.length + ys.length) * bytes ≤ 140737488355328) (hlen2 : xs.length + ys.length ≤ maxLen)
    (h : ∀ v' w', Hid (OwnL w' u.heap.size e k enc v' (xs ++ ys) ∧ Ext u w' ∧ w.grownBy w' v.ownBlock ∧ ∀ c, v.ownBlock ≠ some c → c < w.heap.size → v'.ownBlock ≠ some c) → wpList P ops Q rest (a.put o.dst v') w') : wpList P ops Q (o :: rest) a w := by
  have hown2 : w.ownsRow u.heap.size e k v xs.length (xs.flatMap enc) := hown
  obtain ⟨v', w', hrun, h2, h3, h4⟩ : ∃ v' w', (Builtin.append_ #[t, t] o.type #[v, .slice A ys.length c]).run P w = .ok v' w' ∧ OwnL w' u.heap.size e k enc v' (xs ++ ys) ∧ w.grownBy w' v.ownBlock ∧ (v'.ownBlock = v.ownBlock ∨ v'.ownBlock = some w.heap.size) := by
    by_cases hy : ys = []
    · subst hy
      rcases A with _ | ad
      · exact ⟨v, w, run_append_of_nil w u.heap.size t o.type e i k ht hi v _ _ hown2 c, by simpa using hown, World.grownBy.refl w _, .inl rfl⟩
      · obtain ⟨v', w', hrun, h2, h3, _, h5⟩ := run_append_own_at (P := P) w u.heap.size t o.type e i z k bytes ht hi hz hsize hby hzs hsz v xs.length _ hown2 ad 0 c [] (by simp) (fun j u hj => by simp at hj) (fun u hu => by cases hu) (by simpa using hlen2) (by simpa using hlen) (esz hE)
        exact ⟨v', w', hrun, by unfold OwnL; simpa using h2, h3, h5⟩
    · have hp : 0 < ys.length := List.length_pos_iff.2 hy
      obtain ⟨b, off, rfl, hb, hc⟩ := hr hp
      obtain ⟨v', w', hrun, h2, h3, _, h5⟩ := run_append_own_at (P := P) w u.heap.size t o.type e i z k bytes ht hi hz hsize hby hzs hsz v xs.length _ hown2 ⟨b, off, none⟩ ys.length c (ys.flatMap enc) (flat_len' hk ys) (flat_cells hk hc hsz) (flat_one hone ys) hlen2 hlen (esz hE)
      exact ⟨v', w', hrun, by unfold OwnL; rw [List.length_append, List.flatMap_append]; exact h2, h3, h5⟩
  refine wpList_plain hgd fun K hK => ?_
  unfold Oper.wp execOp
  simp only [ho, resolve, invoke, builtin, Sem.run_bind, Sem.run_pure, Result.andThen_ok, List.map_toArray, List.map_cons, List.map_nil, hs, hx, hrun]
  refine hK _ _ (h v' w' ⟨h2, OwnL.app_below hE (esz hE) (fun b hb => (hown.lt b hb).1) h3, h3, fun c hc hcs => ?_⟩)
  rcases h4 with h4 | h4
  · rw [h4]; exact hc
  · rw [h4]; intro e; injection e with e; omega
end Go.Proofs.YtbgmknkmfhpgeaaDoor
