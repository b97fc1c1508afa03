/- Links, readings: what is read of them; stores of rows of cells. -/
import Derived.Test.YtbgmknkmfhpgeaaDoorPAll
import Derived.Test.YtbgmknkmfhpgeaaDoorFlat
import Derived.Test.YtbgmknkmfhpgeaaDoorExt
import Derived.Test.YtbgmknkmfhpgeaaDoorRow
import Derived.Test.YtbgmknkmfhpgeaaDoorWProfs
set_option linter.unusedVariables false
set_option linter.unusedSimpArgs false
set_option maxRecDepth 100000
namespace Go.Proofs.YtbgmknkmfhpgeaaDoor
open Go.ChangeShapes Go.WideShapes Go.ChangeAt Go.RowKit
open Sg

def Lkc (s : Lnk) : List Value := [.int .i64 s.id, .int .i64 s.at_]
theorem Lkc_len (s : Lnk) : (Lkc s).length = 2 := rfl
theorem Lkc_one (s : Lnk) : ∀ u ∈ Lkc s, u.oneCell' = true := by intro u hu; simp [Lkc] at hu; rcases hu with rfl | rfl <;> rfl
/-- The cells of the element k, in the walk's own spelling. -/
theorem rd_lnk {w wr : World} {A : Option Addr} {p : List Lnk} {k : Nat} (h : Rd w A 2 Lkc p) (hb : Ext w wr) (hk : k < p.length) :
    ∃ b off s, A = some ⟨b, off, none⟩ ∧ p[k]? = some s ∧ b < wr.heap.size ∧ wr.cell? ⟨b, off + k * 2, none⟩ = some (.int .i64 s.id) ∧ wr.cell? ⟨b, off + k * 2 + 1, none⟩ = some (.int .i64 s.at_) := by
  obtain ⟨b, off, rfl, h1, h2⟩ := h.keep hb (by omega)
  obtain ⟨s, hs⟩ : ∃ s, p[k]? = some s := ⟨_, List.getElem?_eq_getElem hk⟩
  exact ⟨b, off, s, rfl, hs, h1, h2 k s hs 0 _ rfl, h2 k s hs 1 _ rfl⟩
def LnkI (s : Lnk) : Prop := I64 s.id ∧ I64 s.at_
section
variable {H : Type} {enc : TypeId × Value → H} {w : World} {base b0 : Nat} {spare : Nat → Bool} {held : Bool} {r : Reach} {v : Value} {d : DataW H} {ps : List MemPlace}
theorem leaves_lnk {cs : List Value} (h : Leaves enc Tryd.prog w base spare held [3, 3] cs) : ∃ T : Lnk, cs = Lkc T ∧ LnkI T := by
  obtain ⟨c0, r0, rfl, l0, h⟩ := leaves_cons h
  obtain ⟨c1, r1, rfl, l1, h⟩ := leaves_cons h
  obtain rfl := leaves_nil h
  obtain ⟨v0, rfl, b0⟩ := leaf_i64 Tryd.underlying3 l0
  obtain ⟨v1, rfl, b1⟩ := leaf_i64 Tryd.underlying3 l1
  exact ⟨⟨v0, v1⟩, rfl, b0, b1⟩
theorem open_lnk (hv : Value.okWide Tryd.prog w r b0 43 v) (h : DataW.Trod enc Tryd.prog w base spare held 43 v d ps) : ∃ T : Lnk, v = .agg #[.int .i64 T.id, .int .i64 T.at_] ∧ LnkI T := by
  obtain ⟨cs, rfl, hL⟩ := open_flat (n := 3) (l := [3, 3]) Tryd.underlying43 (by kernel_rfl) hv h
  obtain ⟨T, rfl, hT⟩ := leaves_lnk hL
  exact ⟨T, rfl, hT⟩
theorem leaf_lnks {c : Value} (h : Leaf enc Tryd.prog w base spare held 27 c) : ∃ A xs cap, c = .slice A (List.length xs) cap ∧ Rd w A 2 Lkc xs ∧ xs.length ≤ maxLen ∧ xs.length ≤ cap ∧ ∀ (i : Nat) (x : Lnk), xs[i]? = some x → LnkI x :=
  leaf_slice (n := 3) (en := Lkc) (Q := LnkI) Tryd.underlying27 (l := [3, 3]) (by kernel_rfl) (by decide) (fun cs hl => leaves_lnk hl) h
theorem open_lnks (hv : Value.okWide Tryd.prog w r b0 27 v) (h : DataW.Trod enc Tryd.prog w base spare held 27 v d ps) : ∃ A xs cap, v = .slice A (List.length xs) cap ∧ Rd w A 2 Lkc xs ∧ xs.length ≤ maxLen ∧ xs.length ≤ cap ∧ ∀ (i : Nat) (x : Lnk), xs[i]? = some x → LnkI x :=
  leaf_lnks (open_leaf (n := 0) Tryd.underlying27 hv h)
end
def Rec (s : Rea) : List Value := [.int .i64 s.id, .int .i64 s.off]
theorem Rec_len (s : Rea) : (Rec s).length = 2 := rfl
theorem Rec_one (s : Rea) : ∀ u ∈ Rec s, u.oneCell' = true := by intro u hu; simp [Rec] at hu; rcases hu with rfl | rfl <;> rfl
/-- The cells of the element k, in the walk's own spelling. -/
theorem rd_rea {w wr : World} {A : Option Addr} {p : List Rea} {k : Nat} (h : Rd w A 2 Rec p) (hb : Ext w wr) (hk : k < p.length) :
    ∃ b off s, A = some ⟨b, off, none⟩ ∧ p[k]? = some s ∧ b < wr.heap.size ∧ wr.cell? ⟨b, off + k * 2, none⟩ = some (.int .i64 s.id) ∧ wr.cell? ⟨b, off + k * 2 + 1, none⟩ = some (.int .i64 s.off) := by
  obtain ⟨b, off, rfl, h1, h2⟩ := h.keep hb (by omega)
  obtain ⟨s, hs⟩ : ∃ s, p[k]? = some s := ⟨_, List.getElem?_eq_getElem hk⟩
  exact ⟨b, off, s, rfl, hs, h1, h2 k s hs 0 _ rfl, h2 k s hs 1 _ rfl⟩
def ReaI (s : Rea) : Prop := I64 s.id ∧ I64 s.off
section
variable {H : Type} {enc : TypeId × Value → H} {w : World} {base b0 : Nat} {spare : Nat → Bool} {held : Bool} {r : Reach} {v : Value} {d : DataW H} {ps : List MemPlace}
theorem leaves_rea {cs : List Value} (h : Leaves enc Tryd.prog w base spare held [3, 3] cs) : ∃ T : Rea, cs = Rec T ∧ ReaI T := by
  obtain ⟨c0, r0, rfl, l0, h⟩ := leaves_cons h
  obtain ⟨c1, r1, rfl, l1, h⟩ := leaves_cons h
  obtain rfl := leaves_nil h
  obtain ⟨v0, rfl, b0⟩ := leaf_i64 Tryd.underlying3 l0
  obtain ⟨v1, rfl, b1⟩ := leaf_i64 Tryd.underlying3 l1
  exact ⟨⟨v0, v1⟩, rfl, b0, b1⟩
theorem open_rea (hv : Value.okWide Tryd.prog w r b0 102 v) (h : DataW.Trod enc Tryd.prog w base spare held 102 v d ps) : ∃ T : Rea, v = .agg #[.int .i64 T.id, .int .i64 T.off] ∧ ReaI T := by
  obtain ⟨cs, rfl, hL⟩ := open_flat (n := 3) (l := [3, 3]) Tryd.underlying102 (by kernel_rfl) hv h
  obtain ⟨T, rfl, hT⟩ := leaves_rea hL
  exact ⟨T, rfl, hT⟩
theorem leaf_reas {c : Value} (h : Leaf enc Tryd.prog w base spare held 60 c) : ∃ A xs cap, c = .slice A (List.length xs) cap ∧ Rd w A 2 Rec xs ∧ xs.length ≤ maxLen ∧ xs.length ≤ cap ∧ ∀ (i : Nat) (x : Rea), xs[i]? = some x → ReaI x :=
  leaf_slice (n := 3) (en := Rec) (Q := ReaI) Tryd.underlying60 (l := [3, 3]) (by kernel_rfl) (by decide) (fun cs hl => leaves_rea hl) h
theorem open_reas (hv : Value.okWide Tryd.prog w r b0 60 v) (h : DataW.Trod enc Tryd.prog w base spare held 60 v d ps) : ∃ A xs cap, v = .slice A (List.length xs) cap ∧ Rd w A 2 Rec xs ∧ xs.length ≤ maxLen ∧ xs.length ≤ cap ∧ ∀ (i : Nat) (x : Rea), xs[i]? = some x → ReaI x :=
  leaf_reas (open_leaf (n := 0) Tryd.underlying60 hv h)
end
/-! ### Sizes -/
theorem szCab : (Tryd.prog.info? 35).map (·.size) = some 26 := by kernel_rfl
theorem szAut : (Tryd.prog.info? 29).map (·.size) = some 4 := by kernel_rfl
theorem szSes : (Tryd.prog.info? 31).map (·.size) = some 4 := by kernel_rfl
theorem szEst : (Tryd.prog.info? 25).map (·.size) = some 3 := by kernel_rfl
theorem szTai : (Tryd.prog.info? 33).map (·.size) = some 2 := by kernel_rfl
theorem szMsg : (Tryd.prog.info? 39).map (·.size) = some 14 := by kernel_rfl
theorem szRep : (Tryd.prog.info? 37).map (·.size) = some 5 := by kernel_rfl
theorem szTr : (Tryd.prog.info? 23).map (·.size) = some 10 := by kernel_rfl
/-! ### Lists in blocks from B on; a unit that is returned -/
theorem Rd.only {α : Type} {w w' : World} {A : Option Addr} {k b : Nat} {enc : α → List Value} {xs : List α} (h : Rd w A k enc xs) (hn : ∀ a, A = some a → a.block ≠ b) (g : Only b w w') : Rd w' A k enc xs := fun h0 => by
  obtain ⟨c, off, rfl, h1, h2⟩ := h h0
  have hc := hn _ rfl
  exact ⟨c, off, rfl, by rw [g.size]; exact h1, fun i x hi j v hj => (World.cell?_of_block (w := w) (a := ⟨c, off + i * k + j, none⟩) (g.block c hc)).trans (h2 i x hi j v hj)⟩
def RdN {α : Type} (B : Nat) (w : World) (A : Option Addr) (k : Nat) (enc : α → List Value) (xs : List α) : Prop := Rd w A k enc xs ∧ ∀ a, A = some a → B ≤ a.block
theorem RdN.keep {α : Type} {B : Nat} {w w' : World} {A : Option Addr} {k : Nat} {enc : α → List Value} {xs : List α} (h : RdN B w A k enc xs) (g : Below w.heap.size w w') : RdN B w' A k enc xs := ⟨h.1.keep g, h.2⟩
theorem RdN.mono {α : Type} {B B' : Nat} {w : World} {A : Option Addr} {k : Nat} {enc : α → List Value} {xs : List α} (h : RdN B w A k enc xs) (g : B' ≤ B) : RdN B' w A k enc xs := ⟨h.1, fun a ha => Nat.le_trans g (h.2 a ha)⟩
theorem RdN.only {α : Type} {B b : Nat} {w w' : World} {A : Option Addr} {k : Nat} {enc : α → List Value} {xs : List α} (h : RdN B w A k enc xs) (g : Only b w w') (hb : b < B) : RdN B w' A k enc xs := ⟨h.1.only (fun a ha => by have := h.2 a ha; omega) g, h.2⟩
theorem Rd.past {α : Type} {b : Nat} {w0 w w' : World} {A : Option Addr} {k : Nat} {enc : α → List Value} {xs : List α} (h0 : Rd w0 A k enc xs) (h : Rd w A k enc xs) (g : Only b w w') (hb : w0.heap.size ≤ b) : Rd w' A k enc xs := fun hl => by
  obtain ⟨c, off, e, h1, -⟩ := h0 hl
  exact h.only (fun a ha => by rw [e] at ha; injection ha with ha; subst ha; show c ≠ b; omega) g hl
theorem RdN.past {α : Type} {B b : Nat} {w0 w w' : World} {A : Option Addr} {k : Nat} {enc : α → List Value} {xs : List α} (h0 : RdN B w0 A k enc xs) (h : RdN B w A k enc xs) (g : Only b w w') (hb : w0.heap.size ≤ b) : RdN B w' A k enc xs := ⟨Rd.past h0.1 h.1 g hb, h.2⟩
theorem OwnL.rdN {α : Type} {w : World} {base : Nat} {e : TypeId} {k : Nat} {enc : α → List Value} {v : Value} {xs : List α} (hk : ∀ x, (enc x).length = k) (h : OwnL w base e k enc v xs) : ∃ A cap, v = .slice A xs.length cap ∧ RdN base w A k enc xs := by
  obtain ⟨A, cap, rfl, hr, -⟩ := h.rd hk
  refine ⟨A, cap, rfl, hr, fun a ha => ?_⟩
  subst ha
  exact (h.lt a.block rfl).1
def CabR (w0 : World) (c : Cb) (e : Ending) (w' : World) : Prop := ∃ A ca L cl, e = .returned (.agg #[.int .i64 c.T.id, .string c.T.name, .int .i64 c.T.len, .int .i64 c.T.speed, .int .i64 c.T.accel, .int .i64 c.T.service, .int .i64 c.T.emergency, .int .i64 c.T.delay, .int .i64 c.T.cons, .int .i64 c.T.rate, .int .i64 c.mode, .int .i64 c.brake, .int .i64 c.next, .int .i64 c.E.min, .int .i64 c.E.max, .int .i64 c.E.speed, .int .i64 c.seq, .int .i64 c.en, .slice A c.p.length ca, .slice L c.k.length cl, .int .i64 c.peer, .int .i64 c.out, .int .i64 c.inn, .int .i64 c.heard, .bool c.known, .int .i64 c.since]) ∧ RdN w0.heap.size w' A 4 Sgc c.p ∧ RdN w0.heap.size w' L 2 Lkc c.k ∧ Below w0.heap.size w0 w'
def CabRE (w0 : World) (c : Cb) (n : Int) (e : Ending) (w' : World) : Prop := ∃ A ca L cl, e = .returned (.tuple #[.agg #[.int .i64 c.T.id, .string c.T.name, .int .i64 c.T.len, .int .i64 c.T.speed, .int .i64 c.T.accel, .int .i64 c.T.service, .int .i64 c.T.emergency, .int .i64 c.T.delay, .int .i64 c.T.cons, .int .i64 c.T.rate, .int .i64 c.mode, .int .i64 c.brake, .int .i64 c.next, .int .i64 c.E.min, .int .i64 c.E.max, .int .i64 c.E.speed, .int .i64 c.seq, .int .i64 c.en, .slice A c.p.length ca, .slice L c.k.length cl, .int .i64 c.peer, .int .i64 c.out, .int .i64 c.inn, .int .i64 c.heard, .bool c.known, .int .i64 c.since], .int .i64 n]) ∧ RdN w0.heap.size w' A 4 Sgc c.p ∧ RdN w0.heap.size w' L 2 Lkc c.k ∧ Below w0.heap.size w0 w'
def CabO (w0 : World) (c : Cb) (e : Ending) (w' : World) : Prop := ∃ A ca L cl, e = .returned (.agg #[.int .i64 c.T.id, .string c.T.name, .int .i64 c.T.len, .int .i64 c.T.speed, .int .i64 c.T.accel, .int .i64 c.T.service, .int .i64 c.T.emergency, .int .i64 c.T.delay, .int .i64 c.T.cons, .int .i64 c.T.rate, .int .i64 c.mode, .int .i64 c.brake, .int .i64 c.next, .int .i64 c.E.min, .int .i64 c.E.max, .int .i64 c.E.speed, .int .i64 c.seq, .int .i64 c.en, .slice A c.p.length ca, .slice L c.k.length cl, .int .i64 c.peer, .int .i64 c.out, .int .i64 c.inn, .int .i64 c.heard, .bool c.known, .int .i64 c.since]) ∧ Rd w' A 4 Sgc c.p ∧ Rd w' L 2 Lkc c.k ∧ Below w0.heap.size w0 w'
def CabOE (w0 : World) (c : Cb) (n : Int) (e : Ending) (w' : World) : Prop := ∃ A ca L cl, e = .returned (.tuple #[.agg #[.int .i64 c.T.id, .string c.T.name, .int .i64 c.T.len, .int .i64 c.T.speed, .int .i64 c.T.accel, .int .i64 c.T.service, .int .i64 c.T.emergency, .int .i64 c.T.delay, .int .i64 c.T.cons, .int .i64 c.T.rate, .int .i64 c.mode, .int .i64 c.brake, .int .i64 c.next, .int .i64 c.E.min, .int .i64 c.E.max, .int .i64 c.E.speed, .int .i64 c.seq, .int .i64 c.en, .slice A c.p.length ca, .slice L c.k.length cl, .int .i64 c.peer, .int .i64 c.out, .int .i64 c.inn, .int .i64 c.heard, .bool c.known, .int .i64 c.since], .int .i64 n]) ∧ Rd w' A 4 Sgc c.p ∧ Rd w' L 2 Lkc c.k ∧ Below w0.heap.size w0 w'
end Go.Proofs.YtbgmknkmfhpgeaaDoor
