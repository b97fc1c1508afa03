/- Rows of many cells: a whole struct out of a block and into one, in one step of the walk, however many cells it has. -/
import Derived.Test.YtbgmknkmfhpgeaaDoorExt
import Derived.Laws.IdiomCopy
import Derived.Laws.Rows
set_option linter.unusedVariables false
set_option linter.unusedSimpArgs false
namespace Go.Proofs.YtbgmknkmfhpgeaaDoor
open Go.ChangeShapes Go.WideShapes Go.ChangeAt Go.RowKit

theorem setN_own {b : Nat} : ∀ (vs us : List Value) (o : Nat) (w : World), Own w b us → o + vs.length ≤ us.length → Own (w.setCells b o vs) b (us.take o ++ vs ++ us.drop (o + vs.length)) ∧ Only b w (w.setCells b o vs)
  | [], us, o, w, h, _ => ⟨by simpa [World.setCells] using h, Only.refl _ _⟩
  | v :: r, us, o, w, h, ho => by
    have ho' : o < us.length := by simp at ho; omega
    obtain ⟨h1, h2⟩ := setN_own r (us.set o v) (o + 1) _ (h.set o ho' v) (by simp at ho ⊢; omega)
    refine ⟨?_, (Only.set _ _ _ _).trans h2⟩
    have e : (us.set o v).take (o + 1) ++ r ++ (us.set o v).drop (o + 1 + r.length) = us.take o ++ (v :: r) ++ us.drop (o + (v :: r).length) := by
      have e1 : (us.set o v).take (o + 1) = us.take o ++ [v] := by
        rw [List.take_succ_eq_append_getElem (by simpa using ho')]
        simp [List.take_set_of_le]
      have e2 : (us.set o v).drop (o + 1 + r.length) = us.drop (o + (v :: r).length) := by
        rw [List.drop_set_of_lt (by omega)]; congr 1; simp; omega
      rw [e1, e2]; simp
    rw [← e]; exact h1
theorem setN_at {w wt : World} {b : Nat} {us ws : List Value} (h : Own w b us) (o : Nat) (vs : List Value) (he : us.take o ++ vs ++ us.drop (o + vs.length) = ws) (ho : o + vs.length ≤ us.length) (hw : wt = w.setCells b o vs) : Own wt b ws ∧ Only b w wt := by
  subst hw he
  exact setN_own vs us o w h ho
theorem cells_add (b off j : Nat) : (⟨b, off, none⟩ : Addr).add j = ⟨b, off + j, none⟩ := by unfold Addr.add; split <;> simp_all
theorem run_stN {P : Program} {w : World} {t : TypeId} {b off : Nat} {us vs : List Value} (hn : (P.info? t).map (·.size) = some vs.length) (h1 : vs.all (·.oneCell') = true) (hown : Own w b us) (hle : off + vs.length ≤ us.length) :
    (Instr.storeAt t (.pointer (some ⟨b, off, none⟩)) (.agg vs.toArray)).run P w = .ok () (w.setCells b off vs) := by
  have hst := run_storeCells_cells (P := P) b off vs 0 w (fun j hj => by
      rw [Nat.add_zero, hown.2.1 (off + j) _ (List.getElem?_eq_getElem (by omega))]; rfl) (fun j hj => by rw [Nat.add_zero]; exact hown.2.2 _) (fun v hv => by simpa using List.all_eq_true.1 h1 v hv)
  rw [Nat.add_zero] at hst
  cases hq : P.info? t with
  | none => simp [hq] at hn
  | some i =>
    have hs : vs.length = i.size := by simp [hq] at hn; omega
    simp [Instr.storeAt, Instr.sureAddr, storeVar, sizeOf, typeInfo, hq, Value.cells, hs, hst]
theorem run_ldN {P : Program} {w : World} {t : TypeId} {b off : Nat} {fs : Array Field} {us vs : List Value} (hu : P.underlying t = some (.struct fs)) (hn : (P.info? t).map (·.size) = some vs.length) (hc : CellsAt w b us) (hv : (us.drop off).take vs.length = vs) :
    (Instr.loadAt t (.pointer (some ⟨b, off, none⟩))).run P w = .ok (.agg vs.toArray) w := by
  have hl : (loadCells ⟨b, off, none⟩ vs.length).run P w = .ok vs.toArray w :=
    run_loadCells_list (P := P) w ⟨b, off, none⟩ vs (fun j v hj => by
      rw [cells_add]
      refine hc.2 (off + j) v ?_
      have hlt : j < vs.length := (List.getElem?_eq_some_iff.1 hj).1
      rw [← hv, List.getElem?_take_of_lt hlt, List.getElem?_drop] at hj
      exact hj)
  cases hq : P.info? t with
  | none => simp [hq] at hn
  | some i =>
    have hs : i.size = vs.length := by simp [hq] at hn; omega
    have hagg : (isAgg t).run P w = .ok true w := by
      unfold isAgg
      rw [Sem.run_bind, run_underlying hu w]
      rfl
    simp [Instr.loadAt, Instr.sureAddr, loadVar, hagg, sizeOf, typeInfo, hq, hs, hl]
section
variable {P : Program} {w : World} {ops : Array Oper} {rest : List Oper} {o : Oper} {a : Act} {Q : Exit → Act → World → Prop} {x y : Operand} {b off : Nat} {us : List Value}
/-- Store of a whole struct (or of a part of a block that is one). -/
theorem wp_stN (t : TypeId) (ws vs : List Value) (hgd : o.guard = none) (ho : o.op = .store t x y) (hx : a.eval x = .pointer (some ⟨b, off, none⟩)) (hown : Own w b us) (hy : a.eval y = .agg vs.toArray)
    (hn : (P.info? t).map (·.size) = some vs.length) (h1 : vs.all (·.oneCell') = true) (hle : off + vs.length ≤ us.length) (hws : us.take off ++ vs ++ us.drop (off + vs.length) = ws)
    (h : ∀ w', Hid (Own w' b ws ∧ Only b w w') → wpList P ops Q rest (a.put o.dst undef) w') : wpList P ops Q (o :: rest) a w := by
  refine wpList_plain hgd fun K hK => ?_
  unfold Oper.wp execOp
  simp only [ho, hx, hy, Sem.run_bind, run_stN hn h1 hown hle]
  refine hK _ _ (h _ (setN_at hown off vs hws hle rfl))
/-- Load of a whole struct. -/
theorem wp_ldN (t : TypeId) (vs : List Value) {fs : Array Field} (hgd : o.guard = none) (ho : o.op = .load t x) (hx : a.eval x = .pointer (some ⟨b, off, none⟩)) (hc : CellsAt w b us) (hu : P.underlying t = some (.struct fs))
    (hn : (P.info? t).map (·.size) = some vs.length) (hv : (us.drop off).take vs.length = vs)
    (h : wpList P ops Q rest (a.put o.dst (.agg vs.toArray)) w) : wpList P ops Q (o :: rest) a w := by
  refine wpList_plain hgd fun K hK => ?_
  unfold Oper.wp execOp
  simp only [ho, hx, Sem.run_bind, Sem.run_pure, run_ldN hu hn hc hv]
  exact hK _ _ h
/-- The same as single operations. -/
theorem wpo_stN {K : Act → World → Prop} (t : TypeId) (ws vs : List Value) (ho : o.op = .store t x y) (hx : a.eval x = .pointer (some ⟨b, off, none⟩)) (hown : Own w b us) (hy : a.eval y = .agg vs.toArray)
    (hn : (P.info? t).map (·.size) = some vs.length) (h1 : vs.all (·.oneCell') = true) (hle : off + vs.length ≤ us.length) (hws : us.take off ++ vs ++ us.drop (off + vs.length) = ws)
    (h : ∀ w', Hid (Own w' b ws ∧ Only b w w') → K (a.put o.dst undef) w') : o.wp P a w K Q := by
  unfold Oper.wp execOp
  simp only [ho, hx, hy, Sem.run_bind, run_stN hn h1 hown hle]
  exact h _ (setN_at hown off vs hws hle rfl)
theorem wpo_ldN {K : Act → World → Prop} (t : TypeId) (vs : List Value) {fs : Array Field} (ho : o.op = .load t x) (hx : a.eval x = .pointer (some ⟨b, off, none⟩)) (hc : CellsAt w b us) (hu : P.underlying t = some (.struct fs))
    (hn : (P.info? t).map (·.size) = some vs.length) (hv : (us.drop off).take vs.length = vs)
    (h : K (a.put o.dst (.agg vs.toArray)) w) : o.wp P a w K Q := by
  unfold Oper.wp execOp
  simp only [ho, hx, Sem.run_bind, Sem.run_pure, run_ldN hu hn hc hv]
  exact h
end
/-! ### A small region that draws its order: every order by hand -/
section
variable {P : Program} {ops : Array Oper} {md : Region.Mode} {Q : Exit → Act → World → Prop} {fuel : Nat} {listed : Array Bool} {a : Act} {w : World}
def AllO (P : Program) (md : Region.Mode) (ops : Array Oper) (Q : Exit → Act → World → Prop) (fuel : Nat) (listed : Array Bool) (a : Act) (w : World) (rs : List Nat) : Prop :=
  ∀ i ∈ rs, wpOp P ops Q i (wpAny P md ops Q fuel (listed.setIfInBounds i true)) a w
theorem AllO.nil : AllO P md ops Q fuel listed a w [] := fun _ h => by cases h
theorem wanted_no {o : Oper} (hg : o.guard = none) (l : Nat → Option Bool) : Region.wanted o l = true := by unfold Region.wanted; rw [hg]
theorem AllO.cons {i : Nat} {o : Oper} {rs : List Nat} (ho : ops[i]? = some o) (hg : o.guard = none)
    (h : ∀ K : Act → World → Prop, (∀ a w, wpAny P md ops Q fuel (listed.setIfInBounds i true) a w → K a w) → Oper.wp P o a w K Q) (hs : AllO P md ops Q fuel listed a w rs) : AllO P md ops Q fuel listed a w (i :: rs) := fun j hj => by
  rcases List.mem_cons.1 hj with rfl | hj
  · exact wpOp_step ho (fun K' hK' => by rw [if_pos (wanted_no hg _)]; exact h K' hK')
  · exact hs j hj
theorem wpAny_go {rs : List Nat} (hr : Region.ready md ops listed = rs) (hne : rs ≠ []) (h : AllO P md ops Q fuel listed a w rs) : wpAny P md ops Q (fuel + 1) listed a w :=
  ⟨fun h0 => absurd (hr ▸ h0) hne, by rw [hr]; exact h⟩
theorem wp_region_orders {id : Nat} (n : Nat) (hn : ops.size = n) (hm : P.follows .mixedOrders = true) (h : ∀ wd, Ext w wd → wpAny P .any ops Q n (Array.replicate n false) a wd) : (Code.region id ops true).wp P Q a w :=
  wp_region_any hm (by rw [hn]; exact h _ (Below.refl _ _).drew)
theorem wpAny_end (hr : Region.ready md ops listed = []) (h : Q .normal a w) : wpAny P md ops Q 0 listed a w := ⟨hr, h⟩
end
/-! ### Results that lie in blocks -/
theorem run_lvN {P : Program} {w : World} {t : TypeId} {b : Nat} {fs : Array Field} {vs : List Value} (hu : P.underlying t = some (.struct fs)) (hn : (P.info? t).map (·.size) = some vs.length) (hc : CellsAt w b vs) :
    (loadVar t ⟨b, 0, none⟩).run P w = .ok (.agg vs.toArray) w := by
  have := run_ldN (off := 0) hu hn hc (by simp)
  simpa [Instr.loadAt, Instr.sureAddr] using this
theorem res_c {P : Program} {fn : Func} {tm : Array Value} {w : World} {a : Nat} {t : TypeId} {b : Nat} {fs : Array Field} {vs : List Value} (hr : fn.results = #[.cell a t]) (ha : tm.getD a undef = .pointer (some ⟨b, 0, none⟩))
    (hc : CellsAt w b vs) (hu : P.underlying t = some (.struct fs)) (hn : (P.info? t).map (·.size) = some vs.length) : (results fn tm).run P w = .ok (.agg vs.toArray) w := by
  have ha2 : tm[a]?.getD undef = .pointer (some ⟨b, 0, none⟩) := by rw [← ha]; simp
  simp [results, hr, ha2, asAddr, run_lvN hu hn hc]
theorem res_ct {P : Program} {fn : Func} {tm : Array Value} {w : World} {a i : Nat} {t : TypeId} {b : Nat} {fs : Array Field} {vs : List Value} {v : Value} (hr : fn.results = #[.cell a t, .tmp i]) (ha : tm.getD a undef = .pointer (some ⟨b, 0, none⟩)) (hi : tm.getD i undef = v)
    (hc : CellsAt w b vs) (hu : P.underlying t = some (.struct fs)) (hn : (P.info? t).map (·.size) = some vs.length) : (results fn tm).run P w = .ok (.tuple #[.agg vs.toArray, v]) w := by
  subst hi
  have ha2 : tm[a]?.getD undef = .pointer (some ⟨b, 0, none⟩) := by rw [← ha]; simp
  simp [results, hr, ha2, asAddr, run_lvN hu hn hc]
theorem res_cc {P : Program} {fn : Func} {tm : Array Value} {w : World} {a a' : Nat} {t t' : TypeId} {b b' : Nat} {fs fs' : Array Field} {vs vs' : List Value} (hr : fn.results = #[.cell a t, .cell a' t']) (ha : tm.getD a undef = .pointer (some ⟨b, 0, none⟩)) (ha' : tm.getD a' undef = .pointer (some ⟨b', 0, none⟩))
    (hc : CellsAt w b vs) (hu : P.underlying t = some (.struct fs)) (hn : (P.info? t).map (·.size) = some vs.length) (hc' : CellsAt w b' vs') (hu' : P.underlying t' = some (.struct fs')) (hn' : (P.info? t').map (·.size) = some vs'.length) :
    (results fn tm).run P w = .ok (.tuple #[.agg vs.toArray, .agg vs'.toArray]) w := by
  have ha2 : tm[a]?.getD undef = .pointer (some ⟨b, 0, none⟩) := by rw [← ha]; simp
  have ha3 : tm[a']?.getD undef = .pointer (some ⟨b', 0, none⟩) := by rw [← ha']; simp
  simp [results, hr, ha2, ha3, asAddr, run_lvN hu hn hc, run_lvN hu' hn' hc']
end Go.Proofs.YtbgmknkmfhpgeaaDoor
