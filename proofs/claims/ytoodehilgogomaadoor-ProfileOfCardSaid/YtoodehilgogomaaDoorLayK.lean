/- Small lemmas on layouts, worlds and lists that many walks need. -/
import Derived.Test.YtoodehilgogomaaDoorTLay
import Derived.WalkMore
import Derived.IntWalk
import Derived.Deep.Cut
set_option linter.unusedVariables false
set_option linter.unusedSimpArgs false
set_option maxRecDepth 100000
namespace Go.Proofs.YtoodehilgogomaaDoor
open Go.ChangeShapes Go.WideShapes Go.ChangeAt Go.RowKit
open Sg

theorem cell_keep {u w : World} {b o : Nat} {v : Value} (l : b < u.heap.size) (h : Ext u w) (g : u.cell? ⟨b, o, none⟩ = some v) : w.cell? ⟨b, o, none⟩ = some v := (h.cell (p := ⟨b, o, none⟩) l).trans g
theorem lt_keep {u w : World} {b : Nat} (l : b < u.heap.size) (h : Ext u w) : b < w.heap.size := Nat.lt_of_lt_of_le l h.size
/-- A layout's box. -/
abbrev LayAt (w : World) (b : Nat) (L : Lay) : Prop := CellsAt w b [.string L.name, .slice L.aS L.secs.length L.cS, .slice L.aE L.els.length L.cE, .slice L.aJ L.jts.length L.cJ, .slice L.aG L.sgs.length L.cG, .slice L.aB L.bals.length L.cB]
theorem layAt_cells {w : World} {b : Nat} {L : Lay} (h : LayAt w b L) : b < w.heap.size ∧ w.cell? ⟨b, 0, none⟩ = some (.string L.name) ∧ w.cell? ⟨b, 1, none⟩ = some (.slice L.aS L.secs.length L.cS) ∧ w.cell? ⟨b, 2, none⟩ = some (.slice L.aE L.els.length L.cE) ∧ w.cell? ⟨b, 3, none⟩ = some (.slice L.aJ L.jts.length L.cJ) ∧ w.cell? ⟨b, 4, none⟩ = some (.slice L.aG L.sgs.length L.cG) ∧ w.cell? ⟨b, 5, none⟩ = some (.slice L.aB L.bals.length L.cB) := ⟨h.1, h.2 0 _ rfl, h.2 1 _ rfl, h.2 2 _ rfl, h.2 3 _ rfl, h.2 4 _ rfl, h.2 5 _ rfl⟩
/-- The elements are as a valid layout's. -/
def ElsOk (els : List Elm) : Prop := ∀ (k : Nat) x, els[k]? = some x → 1 ≤ x.kind ∧ x.kind ≤ 3 ∧ 500 ≤ x.len ∧ x.len ≤ 1000000
def WayIn (els : List Elm) (way : List Stp) : Prop := ∀ (k : Nat) s, way[k]? = some s → hasEl els s.el
theorem has_at {els : List Elm} {el : Int} (h : hasEl els el) : ∃ (k : Nat) (x : Elm), el = (k : Int) ∧ els[k]? = some x ∧ elAt els el = x := by
  obtain ⟨h1, h2⟩ := h
  obtain ⟨k, rfl⟩ : ∃ k : Nat, el = (k : Int) := ⟨el.toNat, by omega⟩
  exact ⟨k, _, rfl, List.getElem?_eq_getElem (by omega), elAt_of (List.getElem?_eq_getElem (by omega))⟩
theorem beg_bound {els : List Elm} {way : List Stp} {c : Int} (he : ElsOk els) (hw : WayIn els way) : ∀ {k : Nat}, k ≤ way.length → c ≤ begF els way c k ∧ begF els way c k ≤ c + 1000000 * k
  | 0, _ => by simp [begF]
  | k + 1, h => by
    have ih := beg_bound (c := c) he hw (k := k) (by omega)
    have hs : way[k]? = some way[k] := List.getElem?_eq_getElem (by omega)
    rw [begF_succ hs]
    obtain ⟨j, x, _, hx, e⟩ := has_at (hw k _ hs)
    have := he j x hx
    rw [e]
    omega
theorem OwnL.rdn {α : Type} {w : World} {base : Nat} {e : TypeId} {k : Nat} {enc : α → List Value} {v : Value} {xs : List α} (hk : ∀ x, (enc x).length = k) (h : OwnL w base e k enc v xs) : ∃ A cap, v = .slice A xs.length cap ∧ Rd w A k enc xs ∧ xs.length ≤ maxLen ∧ ∀ a, A = some a → base ≤ a.block := by
  obtain ⟨A, cap, rfl, hr, hm⟩ := h.rd hk
  exact ⟨A, cap, rfl, hr, hm, fun a ha => by subst ha; exact (h.lt a.block rfl).1⟩
theorem Rd.only {α : Type} {v w : World} {A : Option Addr} {k b : Nat} {enc : α → List Value} {xs : List α} (h : Rd v A k enc xs) (g : Only b v w) (hb : ∀ a, A = some a → a.block ≠ b) : Rd w A k enc xs := fun h0 => by
  obtain ⟨c, off, e, h1, h2⟩ := h h0
  exact ⟨c, off, e, by rw [g.size]; exact h1, fun i x hi j u hj => (World.cell?_of_block (w := v) (a := ⟨c, off + i * k + j, none⟩) (g.block c (hb _ e))).trans (h2 i x hi j u hj)⟩
abbrev RstAt (w : World) (b : Nat) (r : Rst) : Prop := CellsAt w b (Rsc r)
theorem rstAt_cells {w : World} {b : Nat} {r : Rst} (h : RstAt w b r) : b < w.heap.size ∧ w.cell? ⟨b, 0, none⟩ = some (.int .i64 r.id) ∧ w.cell? ⟨b, 1, none⟩ = some (.int .i64 r.el) ∧ w.cell? ⟨b, 2, none⟩ = some (.int .i64 r.from_) ∧ w.cell? ⟨b, 3, none⟩ = some (.int .i64 r.to_) ∧ w.cell? ⟨b, 4, none⟩ = some (.int .i64 r.speed) ∧ w.cell? ⟨b, 5, none⟩ = some (.bool r.act) := ⟨h.1, h.2 0 _ rfl, h.2 1 _ rfl, h.2 2 _ rfl, h.2 3 _ rfl, h.2 4 _ rfl, h.2 5 _ rfl⟩
theorem rd_el_at {w wr : World} {b off k : Nat} {p : List Elm} {s : Elm} (h : Rd w (some ⟨b, off, none⟩) 7 Elc p) (hb : Ext w wr) (hs : p[k]? = some s) : b < wr.heap.size ∧ wr.cell? ⟨b, off + k * 7, none⟩ = some (.string s.name) ∧ wr.cell? ⟨b, off + k * 7 + 1, none⟩ = some (.int .i64 s.kind) ∧ wr.cell? ⟨b, off + k * 7 + 1 + 1, none⟩ = some (.int .i64 s.len) ∧ wr.cell? ⟨b, off + k * 7 + 1 + 1 + 1, none⟩ = some (.int .i64 s.grade) ∧ wr.cell? ⟨b, off + k * 7 + 1 + 1 + 1 + 1, none⟩ = some (.int .i64 s.speed) ∧ wr.cell? ⟨b, off + k * 7 + 1 + 1 + 1 + 1 + 1, none⟩ = some (.int .i64 s.slow) ∧ wr.cell? ⟨b, off + k * 7 + 1 + 1 + 1 + 1 + 1 + 1, none⟩ = some (.int .i64 s.sec) := by
  obtain ⟨b', off', s', e, hs', h0, h1, h2, h3, h4, h5, h6, h7⟩ := rd_el h hb (List.getElem?_eq_some_iff.1 hs).1
  cases e
  rw [hs] at hs'
  cases hs'
  exact ⟨h0, h1, h2, h3, h4, h5, h6, h7⟩
theorem fwd_key (els : List Elm) (s : Stp) (x : Elm) (hx : elAt els s.el = x) : (fwdS els s = true ∧ ((s.in_ == 0) = true ∨ ((s.in_ == 0) = false ∧ (s.in_ == 2) = true ∧ (x.kind == 3) = true))) ∨ (fwdS els s = false ∧ (((s.in_ == 0) = false ∧ (s.in_ == 2) = true ∧ (x.kind == 3) = false) ∨ ((s.in_ == 0) = false ∧ (s.in_ == 2) = false))) := by
  unfold fwdS
  rw [hx]
  cases (s.in_ == 0) <;> cases (s.in_ == 2) <;> cases (x.kind == 3) <;> simp
theorem setO {w : World} {b : Nat} {us : List Value} (o : Nat) (v : Value) (h : Own w b us) (ho : o < us.length) : ∃ w', w' = w.setCell ⟨b, o, none⟩ v ∧ Own w' b (us.set o v) ∧ Only b w w' := ⟨_, rfl, h.set o ho v, Only.set _ _ _ _⟩
theorem Own.grown {w w' : World} {b : Nat} {vs : List Value} {row : Option Nat} (h : Own w b vs) (hg : w.grownBy w' row) (hb : row ≠ some b) : Own w' b vs :=
  ⟨(h.cells.grown hg hb).1, (h.cells.grown hg hb).2, fun j => (World.frozen?_of_block (w := w) (a := ⟨b, j, none⟩) (hg.block b h.1 (fun e => hb e.symm))).trans (h.2.2 j)⟩
theorem lt_up {a b : Nat} (h : a < b) : a < b + 1 := by omega
theorem OwnL.rdc {α : Type} {w : World} {base : Nat} {e : TypeId} {k : Nat} {enc : α → List Value} {v : Value} {xs : List α} (hk : ∀ x, (enc x).length = k) (h : OwnL w base e k enc v xs) : ∃ A cap, v = .slice A xs.length cap ∧ Rd w A k enc xs ∧ xs.length ≤ maxLen ∧ xs.length ≤ cap := by
  obtain ⟨A, cap, hv, hr, hm⟩ := h.rd hk
  refine ⟨A, cap, hv, hr, hm, ?_⟩
  by_cases h0 : 0 < xs.length
  · obtain ⟨g, cap', hv', hc, _⟩ := h.form h0
    rw [hv] at hv'
    injection hv' with _ _ hcc
    omega
  · omega
def FewL (L : Lay) : Prop := L.secs.length ≤ 60 ∧ L.els.length ≤ 60 ∧ L.jts.length ≤ 100 ∧ L.sgs.length ≤ 60 ∧ L.bals.length ≤ 60
instance (L : Lay) : Decidable (FewL L) := by unfold FewL; infer_instance
def fewB (L : Lay) : Bool := decide (FewL L)
theorem fewB_true {L : Lay} : fewB L = true ↔ FewL L := by simp [fewB]
theorem fewB_false {L : Lay} : fewB L = false ↔ ¬ FewL L := by simp [fewB]
end Go.Proofs.YtoodehilgogomaaDoor
