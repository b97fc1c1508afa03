/- Links, readings, units: what is read of them; sizes; lists in blocks from B on. -/
import Derived.Test.YticonpjkcocgeaaDoorPAll
import Derived.Test.YticonpjkcocgeaaDoorKAll
import Derived.Test.YticonpjkcocgeaaDoorWLays
set_option linter.unusedVariables false
set_option linter.unusedSimpArgs false
set_option maxRecDepth 100000
namespace Go.Proofs.YticonpjkcocgeaaDoor
open Go.ChangeShapes Go.WideShapes Go.ChangeAt Go.RowKit
open Sg

def Lkc (s : Lnk) : List Value := [.int .i64 s.id, .int .i64 s.at_]
theorem Lkc_len (s : Lnk) : (Lkc s).length = 2 := rfl
theorem Lkc_one (s : Lnk) : ∀ u ∈ Lkc s, u.oneCell' = true := by intro u hu; simp [Lkc] at hu; rcases hu with rfl | rfl <;> rfl
/-- The cells of the element k, in the walk's own spelling. -/
theorem rd_lnk {w wr : World} {A : Option Addr} {p : List Lnk} {k : Nat} (h : Rd w A 2 Lkc p) (hb : Ext w wr) (hk : k < p.length) :
    ∃ b off s, A = some ⟨b, off, none⟩ ∧ p[k]? = some s ∧ b < wr.heap.size ∧ wr.cell? ⟨b, off + k * 2, none⟩ = some (.int .i64 s.id) ∧ wr.cell? ⟨b, off + k * 2 + 1, none⟩ = some (.int .i64 s.at_) := by
  obtain ⟨b, off, rfl, h1, h2⟩ := h.keep hb (by omega)
  obtain ⟨s, hs⟩ : ∃ s, p[k]? = some s := ⟨_, List.getElem?_eq_getElem hk⟩
  exact ⟨b, off, s, rfl, hs, h1, h2 k s hs 0 _ rfl, h2 k s hs 1 _ rfl⟩
def Rec (s : Rea) : List Value := [.int .i64 s.id, .int .i64 s.off]
theorem Rec_len (s : Rea) : (Rec s).length = 2 := rfl
theorem Rec_one (s : Rea) : ∀ u ∈ Rec s, u.oneCell' = true := by intro u hu; simp [Rec] at hu; rcases hu with rfl | rfl <;> rfl
theorem rd_rea {w wr : World} {A : Option Addr} {p : List Rea} {k : Nat} (h : Rd w A 2 Rec p) (hb : Ext w wr) (hk : k < p.length) :
    ∃ b off s, A = some ⟨b, off, none⟩ ∧ p[k]? = some s ∧ b < wr.heap.size ∧ wr.cell? ⟨b, off + k * 2, none⟩ = some (.int .i64 s.id) ∧ wr.cell? ⟨b, off + k * 2 + 1, none⟩ = some (.int .i64 s.off) := by
  obtain ⟨b, off, rfl, h1, h2⟩ := h.keep hb (by omega)
  obtain ⟨s, hs⟩ : ∃ s, p[k]? = some s := ⟨_, List.getElem?_eq_getElem hk⟩
  exact ⟨b, off, s, rfl, hs, h1, h2 k s hs 0 _ rfl, h2 k s hs 1 _ rfl⟩
theorem szUnt : (Tryd.prog.info? 49).map (·.size) = some 32 := by kernel_rfl
theorem szCab : (Tryd.prog.info? 47).map (·.size) = some 26 := by kernel_rfl
theorem szEst : (Tryd.prog.info? 37).map (·.size) = some 3 := by kernel_rfl
theorem szSes : (Tryd.prog.info? 43).map (·.size) = some 4 := by kernel_rfl
theorem szTai : (Tryd.prog.info? 45).map (·.size) = some 2 := by kernel_rfl
theorem szSeg : (Tryd.prog.info? 126).map (·.size) = some 4 := by kernel_rfl
theorem szLnk : (Tryd.prog.info? 106).map (·.size) = some 2 := by kernel_rfl
/-! ### Lists in blocks from B on -/
def RdN {α : Type} (B : Nat) (w : World) (A : Option Addr) (k : Nat) (enc : α → List Value) (xs : List α) : Prop := Rd w A k enc xs ∧ ∀ a, A = some a → B ≤ a.block
theorem RdN.keep {α : Type} {B : Nat} {w w' : World} {A : Option Addr} {k : Nat} {enc : α → List Value} {xs : List α} (h : RdN B w A k enc xs) (g : Below w.heap.size w w') : RdN B w' A k enc xs := ⟨h.1.keep g, h.2⟩
theorem RdN.mono {α : Type} {B B' : Nat} {w : World} {A : Option Addr} {k : Nat} {enc : α → List Value} {xs : List α} (h : RdN B w A k enc xs) (g : B' ≤ B) : RdN B' w A k enc xs := ⟨h.1, fun a ha => Nat.le_trans g (h.2 a ha)⟩
theorem RdN.only {α : Type} {B b : Nat} {w w' : World} {A : Option Addr} {k : Nat} {enc : α → List Value} {xs : List α} (h : RdN B w A k enc xs) (g : Only b w w') (hb : b < B) : RdN B w' A k enc xs := ⟨h.1.only g (fun a ha => by have := h.2 a ha; omega), h.2⟩
theorem OwnL.rdN {α : Type} {w : World} {base : Nat} {e : TypeId} {k : Nat} {enc : α → List Value} {v : Value} {xs : List α} (hk : ∀ x, (enc x).length = k) (h : OwnL w base e k enc v xs) : ∃ A cap, v = .slice A xs.length cap ∧ RdN base w A k enc xs ∧ xs.length ≤ cap := by
  have hlt := h.lt
  obtain ⟨A, cap, rfl, hr, -, hc⟩ := h.rdc hk
  exact ⟨A, cap, rfl, ⟨hr, fun a ha => (hlt a.block (by rw [ha]; rfl)).1⟩, hc⟩
end Go.Proofs.YticonpjkcocgeaaDoor
