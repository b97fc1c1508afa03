/- Several texts in one: TLay, WLayA, WLayB, WLayC, WLayD, LayK, WLayE, WLayF. -/
import Derived.Test.YticonpjkcocgeaaDoorKAll
import Derived.Test.YticonpjkcocgeaaDoorPAll
import Derived.Deep.LoopGhost
import Derived.WalkMore
import Derived.IntWalk
import Derived.Deep.MidRow
import Derived.Deep.Cut
set_option linter.unusedVariables false
set_option maxRecDepth 100000
set_option linter.unusedSimpArgs false
namespace Go.Proofs.YticonpjkcocgeaaDoor
open Go.ChangeShapes Go.WideShapes Go.ChangeAt Go.RowKit
open Sg

def Rsc (s : Rst) : List Value := [.int .i64 s.id, .int .i64 s.el, .int .i64 s.from_, .int .i64 s.to_, .int .i64 s.speed, .bool s.act]
theorem Rsc_len (s : Rst) : (Rsc s).length = 6 := rfl
theorem Rsc_one (s : Rst) : ∀ u ∈ Rsc s, u.oneCell' = true := by intro u hu; simp [Rsc] at hu; rcases hu with rfl | rfl | rfl | rfl | rfl | rfl <;> rfl
/-- The cells of the element k, in the walk's own spelling. -/
theorem rd_rs {w wr : World} {A : Option Addr} {p : List Rst} {k : Nat} (h : Rd w A 6 Rsc p) (hb : Ext w wr) (hk : k < p.length) :
    ∃ b off s, A = some ⟨b, off, none⟩ ∧ p[k]? = some s ∧ b < wr.heap.size ∧ wr.cell? ⟨b, off + k * 6, none⟩ = some (.int .i64 s.id) ∧ wr.cell? ⟨b, off + k * 6 + 1, none⟩ = some (.int .i64 s.el) ∧ wr.cell? ⟨b, off + k * 6 + 1 + 1, none⟩ = some (.int .i64 s.from_) ∧ wr.cell? ⟨b, off + k * 6 + 1 + 1 + 1, none⟩ = some (.int .i64 s.to_) ∧ wr.cell? ⟨b, off + k * 6 + 1 + 1 + 1 + 1, none⟩ = some (.int .i64 s.speed) ∧ wr.cell? ⟨b, off + k * 6 + 1 + 1 + 1 + 1 + 1, none⟩ = some (.bool s.act) := by
  obtain ⟨b, off, rfl, h1, h2⟩ := h.keep hb (by omega)
  obtain ⟨s, hs⟩ : ∃ s, p[k]? = some s := ⟨_, List.getElem?_eq_getElem hk⟩
  exact ⟨b, off, s, rfl, hs, h1, h2 k s hs 0 _ rfl, h2 k s hs 1 _ rfl, h2 k s hs 2 _ rfl, h2 k s hs 3 _ rfl, h2 k s hs 4 _ rfl, h2 k s hs 5 _ rfl⟩
def RstI (s : Rst) : Prop := I64 s.id ∧ I64 s.el ∧ I64 s.from_ ∧ I64 s.to_ ∧ I64 s.speed
section
variable {H : Type} {enc : TypeId × Value → H} {w : World} {base b0 : Nat} {spare : Nat → Bool} {held : Bool} {r : Reach} {v : Value} {d : DataW H} {ps : List MemPlace}
theorem leaves_rs {cs : List Value} (h : Leaves enc Tryd.prog w base spare held [3, 3, 3, 3, 3, 4] cs) : ∃ T : Rst, cs = Rsc T ∧ RstI T := by
  obtain ⟨c0, r0, rfl, l0, h⟩ := leaves_cons h
  obtain ⟨c1, r1, rfl, l1, h⟩ := leaves_cons h
  obtain ⟨c2, r2, rfl, l2, h⟩ := leaves_cons h
  obtain ⟨c3, r3, rfl, l3, h⟩ := leaves_cons h
  obtain ⟨c4, r4, rfl, l4, h⟩ := leaves_cons h
  obtain ⟨c5, r5, rfl, l5, h⟩ := leaves_cons h
  obtain rfl := leaves_nil h
  obtain ⟨v0, rfl, b0⟩ := leaf_i64 Tryd.underlying3 l0
  obtain ⟨v1, rfl, b1⟩ := leaf_i64 Tryd.underlying3 l1
  obtain ⟨v2, rfl, b2⟩ := leaf_i64 Tryd.underlying3 l2
  obtain ⟨v3, rfl, b3⟩ := leaf_i64 Tryd.underlying3 l3
  obtain ⟨v4, rfl, b4⟩ := leaf_i64 Tryd.underlying3 l4
  obtain ⟨v5, rfl⟩ := leaf_bool Tryd.underlying4 l5
  exact ⟨⟨v0, v1, v2, v3, v4, v5⟩, rfl, b0, b1, b2, b3, b4⟩
end
def Elc (s : Elm) : List Value := [.string s.name, .int .i64 s.kind, .int .i64 s.len, .int .i64 s.grade, .int .i64 s.speed, .int .i64 s.slow, .int .i64 s.sec]
theorem Elc_len (s : Elm) : (Elc s).length = 7 := rfl
theorem Elc_one (s : Elm) : ∀ u ∈ Elc s, u.oneCell' = true := by intro u hu; simp [Elc] at hu; rcases hu with rfl | rfl | rfl | rfl | rfl | rfl | rfl <;> rfl
/-- The cells of the element k, in the walk's own spelling. -/
theorem rd_el {w wr : World} {A : Option Addr} {p : List Elm} {k : Nat} (h : Rd w A 7 Elc p) (hb : Ext w wr) (hk : k < p.length) :
    ∃ b off s, A = some ⟨b, off, none⟩ ∧ p[k]? = some s ∧ b < wr.heap.size ∧ wr.cell? ⟨b, off + k * 7, none⟩ = some (.string s.name) ∧ wr.cell? ⟨b, off + k * 7 + 1, none⟩ = some (.int .i64 s.kind) ∧ wr.cell? ⟨b, off + k * 7 + 1 + 1, none⟩ = some (.int .i64 s.len) ∧ wr.cell? ⟨b, off + k * 7 + 1 + 1 + 1, none⟩ = some (.int .i64 s.grade) ∧ wr.cell? ⟨b, off + k * 7 + 1 + 1 + 1 + 1, none⟩ = some (.int .i64 s.speed) ∧ wr.cell? ⟨b, off + k * 7 + 1 + 1 + 1 + 1 + 1, none⟩ = some (.int .i64 s.slow) ∧ wr.cell? ⟨b, off + k * 7 + 1 + 1 + 1 + 1 + 1 + 1, none⟩ = some (.int .i64 s.sec) := by
  obtain ⟨b, off, rfl, h1, h2⟩ := h.keep hb (by omega)
  obtain ⟨s, hs⟩ : ∃ s, p[k]? = some s := ⟨_, List.getElem?_eq_getElem hk⟩
  exact ⟨b, off, s, rfl, hs, h1, h2 k s hs 0 _ rfl, h2 k s hs 1 _ rfl, h2 k s hs 2 _ rfl, h2 k s hs 3 _ rfl, h2 k s hs 4 _ rfl, h2 k s hs 5 _ rfl, h2 k s hs 6 _ rfl⟩
def ElmI (s : Elm) : Prop := s.name.size ≤ maxLen ∧ I64 s.kind ∧ I64 s.len ∧ I64 s.grade ∧ I64 s.speed ∧ I64 s.slow ∧ I64 s.sec
section
variable {H : Type} {enc : TypeId × Value → H} {w : World} {base b0 : Nat} {spare : Nat → Bool} {held : Bool} {r : Reach} {v : Value} {d : DataW H} {ps : List MemPlace}
theorem leaves_el {cs : List Value} (h : Leaves enc Tryd.prog w base spare held [9, 3, 3, 3, 3, 3, 3] cs) : ∃ T : Elm, cs = Elc T ∧ ElmI T := by
  obtain ⟨c0, r0, rfl, l0, h⟩ := leaves_cons h
  obtain ⟨c1, r1, rfl, l1, h⟩ := leaves_cons h
  obtain ⟨c2, r2, rfl, l2, h⟩ := leaves_cons h
  obtain ⟨c3, r3, rfl, l3, h⟩ := leaves_cons h
  obtain ⟨c4, r4, rfl, l4, h⟩ := leaves_cons h
  obtain ⟨c5, r5, rfl, l5, h⟩ := leaves_cons h
  obtain ⟨c6, r6, rfl, l6, h⟩ := leaves_cons h
  obtain rfl := leaves_nil h
  obtain ⟨v0, rfl, b0⟩ := leaf_str Tryd.underlying9 l0
  obtain ⟨v1, rfl, b1⟩ := leaf_i64 Tryd.underlying3 l1
  obtain ⟨v2, rfl, b2⟩ := leaf_i64 Tryd.underlying3 l2
  obtain ⟨v3, rfl, b3⟩ := leaf_i64 Tryd.underlying3 l3
  obtain ⟨v4, rfl, b4⟩ := leaf_i64 Tryd.underlying3 l4
  obtain ⟨v5, rfl, b5⟩ := leaf_i64 Tryd.underlying3 l5
  obtain ⟨v6, rfl, b6⟩ := leaf_i64 Tryd.underlying3 l6
  exact ⟨⟨v0, v1, v2, v3, v4, v5, v6⟩, rfl, b0, b1, b2, b3, b4, b5, b6⟩
theorem open_el (hv : Value.okWide Tryd.prog w r b0 79 v) (h : DataW.Trod enc Tryd.prog w base spare held 79 v d ps) : ∃ T : Elm, v = .agg #[.string T.name, .int .i64 T.kind, .int .i64 T.len, .int .i64 T.grade, .int .i64 T.speed, .int .i64 T.slow, .int .i64 T.sec] ∧ ElmI T := by
  obtain ⟨cs, rfl, hL⟩ := open_flat (n := 3) (l := [9, 3, 3, 3, 3, 3, 3]) Tryd.underlying79 (by kernel_rfl) hv h
  obtain ⟨T, rfl, hT⟩ := leaves_el hL
  exact ⟨T, rfl, hT⟩
theorem leaf_els {c : Value} (h : Leaf enc Tryd.prog w base spare held 23 c) : ∃ A xs cap, c = .slice A (List.length xs) cap ∧ Rd w A 7 Elc xs ∧ xs.length ≤ maxLen ∧ xs.length ≤ cap ∧ ∀ (i : Nat) (x : Elm), xs[i]? = some x → ElmI x :=
  leaf_slice (n := 3) (en := Elc) (Q := ElmI) Tryd.underlying23 (l := [9, 3, 3, 3, 3, 3, 3]) (by kernel_rfl) (by decide) (fun cs hl => leaves_el hl) h
theorem open_els (hv : Value.okWide Tryd.prog w r b0 23 v) (h : DataW.Trod enc Tryd.prog w base spare held 23 v d ps) : ∃ A xs cap, v = .slice A (List.length xs) cap ∧ Rd w A 7 Elc xs ∧ xs.length ≤ maxLen ∧ xs.length ≤ cap ∧ ∀ (i : Nat) (x : Elm), xs[i]? = some x → ElmI x :=
  leaf_els (open_leaf (n := 0) Tryd.underlying23 hv h)
end
def Jtc (s : Jnt) : List Value := [.int .i64 s.ae, .int .i64 s.as_, .int .i64 s.be, .int .i64 s.bs]
theorem Jtc_len (s : Jnt) : (Jtc s).length = 4 := rfl
theorem Jtc_one (s : Jnt) : ∀ u ∈ Jtc s, u.oneCell' = true := by intro u hu; simp [Jtc] at hu; rcases hu with rfl | rfl | rfl | rfl <;> rfl
/-- The cells of the element k, in the walk's own spelling. -/
theorem rd_jt {w wr : World} {A : Option Addr} {p : List Jnt} {k : Nat} (h : Rd w A 4 Jtc p) (hb : Ext w wr) (hk : k < p.length) :
    ∃ b off s, A = some ⟨b, off, none⟩ ∧ p[k]? = some s ∧ b < wr.heap.size ∧ wr.cell? ⟨b, off + k * 4, none⟩ = some (.int .i64 s.ae) ∧ wr.cell? ⟨b, off + k * 4 + 1, none⟩ = some (.int .i64 s.as_) ∧ wr.cell? ⟨b, off + k * 4 + 1 + 1, none⟩ = some (.int .i64 s.be) ∧ wr.cell? ⟨b, off + k * 4 + 1 + 1 + 1, none⟩ = some (.int .i64 s.bs) := by
  obtain ⟨b, off, rfl, h1, h2⟩ := h.keep hb (by omega)
  obtain ⟨s, hs⟩ : ∃ s, p[k]? = some s := ⟨_, List.getElem?_eq_getElem hk⟩
  exact ⟨b, off, s, rfl, hs, h1, h2 k s hs 0 _ rfl, h2 k s hs 1 _ rfl, h2 k s hs 2 _ rfl, h2 k s hs 3 _ rfl⟩
def JntI (s : Jnt) : Prop := I64 s.ae ∧ I64 s.as_ ∧ I64 s.be ∧ I64 s.bs
section
variable {H : Type} {enc : TypeId × Value → H} {w : World} {base b0 : Nat} {spare : Nat → Bool} {held : Bool} {r : Reach} {v : Value} {d : DataW H} {ps : List MemPlace}
theorem leaves_jt {cs : List Value} (h : Leaves enc Tryd.prog w base spare held [3, 3, 3, 3] cs) : ∃ T : Jnt, cs = Jtc T ∧ JntI T := by
  obtain ⟨c0, r0, rfl, l0, h⟩ := leaves_cons h
  obtain ⟨c1, r1, rfl, l1, h⟩ := leaves_cons h
  obtain ⟨c2, r2, rfl, l2, h⟩ := leaves_cons h
  obtain ⟨c3, r3, rfl, l3, h⟩ := leaves_cons h
  obtain rfl := leaves_nil h
  obtain ⟨v0, rfl, b0⟩ := leaf_i64 Tryd.underlying3 l0
  obtain ⟨v1, rfl, b1⟩ := leaf_i64 Tryd.underlying3 l1
  obtain ⟨v2, rfl, b2⟩ := leaf_i64 Tryd.underlying3 l2
  obtain ⟨v3, rfl, b3⟩ := leaf_i64 Tryd.underlying3 l3
  exact ⟨⟨v0, v1, v2, v3⟩, rfl, b0, b1, b2, b3⟩
theorem open_jt (hv : Value.okWide Tryd.prog w r b0 112 v) (h : DataW.Trod enc Tryd.prog w base spare held 112 v d ps) : ∃ T : Jnt, v = .agg #[.int .i64 T.ae, .int .i64 T.as_, .int .i64 T.be, .int .i64 T.bs] ∧ JntI T := by
  obtain ⟨cs, rfl, hL⟩ := open_flat (n := 3) (l := [3, 3, 3, 3]) Tryd.underlying112 (by kernel_rfl) hv h
  obtain ⟨T, rfl, hT⟩ := leaves_jt hL
  exact ⟨T, rfl, hT⟩
theorem leaf_jts {c : Value} (h : Leaf enc Tryd.prog w base spare held 24 c) : ∃ A xs cap, c = .slice A (List.length xs) cap ∧ Rd w A 4 Jtc xs ∧ xs.length ≤ maxLen ∧ xs.length ≤ cap ∧ ∀ (i : Nat) (x : Jnt), xs[i]? = some x → JntI x :=
  leaf_slice (n := 3) (en := Jtc) (Q := JntI) Tryd.underlying24 (l := [3, 3, 3, 3]) (by kernel_rfl) (by decide) (fun cs hl => leaves_jt hl) h
theorem open_jts (hv : Value.okWide Tryd.prog w r b0 24 v) (h : DataW.Trod enc Tryd.prog w base spare held 24 v d ps) : ∃ A xs cap, v = .slice A (List.length xs) cap ∧ Rd w A 4 Jtc xs ∧ xs.length ≤ maxLen ∧ xs.length ≤ cap ∧ ∀ (i : Nat) (x : Jnt), xs[i]? = some x → JntI x :=
  leaf_jts (open_leaf (n := 0) Tryd.underlying24 hv h)
end
def Sic (s : Sgl) : List Value := [.string s.name, .int .i64 s.el, .int .i64 s.side, .int .i64 s.ovl]
theorem Sic_len (s : Sgl) : (Sic s).length = 4 := rfl
theorem Sic_one (s : Sgl) : ∀ u ∈ Sic s, u.oneCell' = true := by intro u hu; simp [Sic] at hu; rcases hu with rfl | rfl | rfl | rfl <;> rfl
/-- The cells of the element k, in the walk's own spelling. -/
theorem rd_sg {w wr : World} {A : Option Addr} {p : List Sgl} {k : Nat} (h : Rd w A 4 Sic p) (hb : Ext w wr) (hk : k < p.length) :
    ∃ b off s, A = some ⟨b, off, none⟩ ∧ p[k]? = some s ∧ b < wr.heap.size ∧ wr.cell? ⟨b, off + k * 4, none⟩ = some (.string s.name) ∧ wr.cell? ⟨b, off + k * 4 + 1, none⟩ = some (.int .i64 s.el) ∧ wr.cell? ⟨b, off + k * 4 + 1 + 1, none⟩ = some (.int .i64 s.side) ∧ wr.cell? ⟨b, off + k * 4 + 1 + 1 + 1, none⟩ = some (.int .i64 s.ovl) := by
  obtain ⟨b, off, rfl, h1, h2⟩ := h.keep hb (by omega)
  obtain ⟨s, hs⟩ : ∃ s, p[k]? = some s := ⟨_, List.getElem?_eq_getElem hk⟩
  exact ⟨b, off, s, rfl, hs, h1, h2 k s hs 0 _ rfl, h2 k s hs 1 _ rfl, h2 k s hs 2 _ rfl, h2 k s hs 3 _ rfl⟩
def SglI (s : Sgl) : Prop := s.name.size ≤ maxLen ∧ I64 s.el ∧ I64 s.side ∧ I64 s.ovl
section
variable {H : Type} {enc : TypeId × Value → H} {w : World} {base b0 : Nat} {spare : Nat → Bool} {held : Bool} {r : Reach} {v : Value} {d : DataW H} {ps : List MemPlace}
theorem leaves_sg {cs : List Value} (h : Leaves enc Tryd.prog w base spare held [9, 3, 3, 3] cs) : ∃ T : Sgl, cs = Sic T ∧ SglI T := by
  obtain ⟨c0, r0, rfl, l0, h⟩ := leaves_cons h
  obtain ⟨c1, r1, rfl, l1, h⟩ := leaves_cons h
  obtain ⟨c2, r2, rfl, l2, h⟩ := leaves_cons h
  obtain ⟨c3, r3, rfl, l3, h⟩ := leaves_cons h
  obtain rfl := leaves_nil h
  obtain ⟨v0, rfl, b0⟩ := leaf_str Tryd.underlying9 l0
  obtain ⟨v1, rfl, b1⟩ := leaf_i64 Tryd.underlying3 l1
  obtain ⟨v2, rfl, b2⟩ := leaf_i64 Tryd.underlying3 l2
  obtain ⟨v3, rfl, b3⟩ := leaf_i64 Tryd.underlying3 l3
  exact ⟨⟨v0, v1, v2, v3⟩, rfl, b0, b1, b2, b3⟩
theorem open_sg (hv : Value.okWide Tryd.prog w r b0 145 v) (h : DataW.Trod enc Tryd.prog w base spare held 145 v d ps) : ∃ T : Sgl, v = .agg #[.string T.name, .int .i64 T.el, .int .i64 T.side, .int .i64 T.ovl] ∧ SglI T := by
  obtain ⟨cs, rfl, hL⟩ := open_flat (n := 3) (l := [9, 3, 3, 3]) Tryd.underlying145 (by kernel_rfl) hv h
  obtain ⟨T, rfl, hT⟩ := leaves_sg hL
  exact ⟨T, rfl, hT⟩
theorem leaf_sgs {c : Value} (h : Leaf enc Tryd.prog w base spare held 25 c) : ∃ A xs cap, c = .slice A (List.length xs) cap ∧ Rd w A 4 Sic xs ∧ xs.length ≤ maxLen ∧ xs.length ≤ cap ∧ ∀ (i : Nat) (x : Sgl), xs[i]? = some x → SglI x :=
  leaf_slice (n := 3) (en := Sic) (Q := SglI) Tryd.underlying25 (l := [9, 3, 3, 3]) (by kernel_rfl) (by decide) (fun cs hl => leaves_sg hl) h
theorem open_sgs (hv : Value.okWide Tryd.prog w r b0 25 v) (h : DataW.Trod enc Tryd.prog w base spare held 25 v d ps) : ∃ A xs cap, v = .slice A (List.length xs) cap ∧ Rd w A 4 Sic xs ∧ xs.length ≤ maxLen ∧ xs.length ≤ cap ∧ ∀ (i : Nat) (x : Sgl), xs[i]? = some x → SglI x :=
  leaf_sgs (open_leaf (n := 0) Tryd.underlying25 hv h)
end
def Bac (s : Bls) : List Value := [.int .i64 s.id, .int .i64 s.el, .int .i64 s.off]
theorem Bac_len (s : Bls) : (Bac s).length = 3 := rfl
theorem Bac_one (s : Bls) : ∀ u ∈ Bac s, u.oneCell' = true := by intro u hu; simp [Bac] at hu; rcases hu with rfl | rfl | rfl <;> rfl
/-- The cells of the element k, in the walk's own spelling. -/
theorem rd_ba {w wr : World} {A : Option Addr} {p : List Bls} {k : Nat} (h : Rd w A 3 Bac p) (hb : Ext w wr) (hk : k < p.length) :
    ∃ b off s, A = some ⟨b, off, none⟩ ∧ p[k]? = some s ∧ b < wr.heap.size ∧ wr.cell? ⟨b, off + k * 3, none⟩ = some (.int .i64 s.id) ∧ wr.cell? ⟨b, off + k * 3 + 1, none⟩ = some (.int .i64 s.el) ∧ wr.cell? ⟨b, off + k * 3 + 1 + 1, none⟩ = some (.int .i64 s.off) := by
  obtain ⟨b, off, rfl, h1, h2⟩ := h.keep hb (by omega)
  obtain ⟨s, hs⟩ : ∃ s, p[k]? = some s := ⟨_, List.getElem?_eq_getElem hk⟩
  exact ⟨b, off, s, rfl, hs, h1, h2 k s hs 0 _ rfl, h2 k s hs 1 _ rfl, h2 k s hs 2 _ rfl⟩
def BlsI (s : Bls) : Prop := I64 s.id ∧ I64 s.el ∧ I64 s.off
section
variable {H : Type} {enc : TypeId × Value → H} {w : World} {base b0 : Nat} {spare : Nat → Bool} {held : Bool} {r : Reach} {v : Value} {d : DataW H} {ps : List MemPlace}
theorem leaves_ba {cs : List Value} (h : Leaves enc Tryd.prog w base spare held [3, 3, 3] cs) : ∃ T : Bls, cs = Bac T ∧ BlsI T := by
  obtain ⟨c0, r0, rfl, l0, h⟩ := leaves_cons h
  obtain ⟨c1, r1, rfl, l1, h⟩ := leaves_cons h
  obtain ⟨c2, r2, rfl, l2, h⟩ := leaves_cons h
  obtain rfl := leaves_nil h
  obtain ⟨v0, rfl, b0⟩ := leaf_i64 Tryd.underlying3 l0
  obtain ⟨v1, rfl, b1⟩ := leaf_i64 Tryd.underlying3 l1
  obtain ⟨v2, rfl, b2⟩ := leaf_i64 Tryd.underlying3 l2
  exact ⟨⟨v0, v1, v2⟩, rfl, b0, b1, b2⟩
theorem open_ba (hv : Value.okWide Tryd.prog w r b0 86 v) (h : DataW.Trod enc Tryd.prog w base spare held 86 v d ps) : ∃ T : Bls, v = .agg #[.int .i64 T.id, .int .i64 T.el, .int .i64 T.off] ∧ BlsI T := by
  obtain ⟨cs, rfl, hL⟩ := open_flat (n := 3) (l := [3, 3, 3]) Tryd.underlying86 (by kernel_rfl) hv h
  obtain ⟨T, rfl, hT⟩ := leaves_ba hL
  exact ⟨T, rfl, hT⟩
theorem leaf_bas {c : Value} (h : Leaf enc Tryd.prog w base spare held 26 c) : ∃ A xs cap, c = .slice A (List.length xs) cap ∧ Rd w A 3 Bac xs ∧ xs.length ≤ maxLen ∧ xs.length ≤ cap ∧ ∀ (i : Nat) (x : Bls), xs[i]? = some x → BlsI x :=
  leaf_slice (n := 3) (en := Bac) (Q := BlsI) Tryd.underlying26 (l := [3, 3, 3]) (by kernel_rfl) (by decide) (fun cs hl => leaves_ba hl) h
theorem open_bas (hv : Value.okWide Tryd.prog w r b0 26 v) (h : DataW.Trod enc Tryd.prog w base spare held 26 v d ps) : ∃ A xs cap, v = .slice A (List.length xs) cap ∧ Rd w A 3 Bac xs ∧ xs.length ≤ maxLen ∧ xs.length ≤ cap ∧ ∀ (i : Nat) (x : Bls), xs[i]? = some x → BlsI x :=
  leaf_bas (open_leaf (n := 0) Tryd.underlying26 hv h)
end
def Stc (s : Stp) : List Value := [.int .i64 s.el, .int .i64 s.in_, .int .i64 s.out_]
theorem Stc_len (s : Stp) : (Stc s).length = 3 := rfl
theorem Stc_one (s : Stp) : ∀ u ∈ Stc s, u.oneCell' = true := by intro u hu; simp [Stc] at hu; rcases hu with rfl | rfl | rfl <;> rfl
/-- The cells of the element k, in the walk's own spelling. -/
theorem rd_st {w wr : World} {A : Option Addr} {p : List Stp} {k : Nat} (h : Rd w A 3 Stc p) (hb : Ext w wr) (hk : k < p.length) :
    ∃ b off s, A = some ⟨b, off, none⟩ ∧ p[k]? = some s ∧ b < wr.heap.size ∧ wr.cell? ⟨b, off + k * 3, none⟩ = some (.int .i64 s.el) ∧ wr.cell? ⟨b, off + k * 3 + 1, none⟩ = some (.int .i64 s.in_) ∧ wr.cell? ⟨b, off + k * 3 + 1 + 1, none⟩ = some (.int .i64 s.out_) := by
  obtain ⟨b, off, rfl, h1, h2⟩ := h.keep hb (by omega)
  obtain ⟨s, hs⟩ : ∃ s, p[k]? = some s := ⟨_, List.getElem?_eq_getElem hk⟩
  exact ⟨b, off, s, rfl, hs, h1, h2 k s hs 0 _ rfl, h2 k s hs 1 _ rfl, h2 k s hs 2 _ rfl⟩
def StpI (s : Stp) : Prop := I64 s.el ∧ I64 s.in_ ∧ I64 s.out_
section
variable {H : Type} {enc : TypeId × Value → H} {w : World} {base b0 : Nat} {spare : Nat → Bool} {held : Bool} {r : Reach} {v : Value} {d : DataW H} {ps : List MemPlace}
theorem leaves_st {cs : List Value} (h : Leaves enc Tryd.prog w base spare held [3, 3, 3] cs) : ∃ T : Stp, cs = Stc T ∧ StpI T := by
  obtain ⟨c0, r0, rfl, l0, h⟩ := leaves_cons h
  obtain ⟨c1, r1, rfl, l1, h⟩ := leaves_cons h
  obtain ⟨c2, r2, rfl, l2, h⟩ := leaves_cons h
  obtain rfl := leaves_nil h
  obtain ⟨v0, rfl, b0⟩ := leaf_i64 Tryd.underlying3 l0
  obtain ⟨v1, rfl, b1⟩ := leaf_i64 Tryd.underlying3 l1
  obtain ⟨v2, rfl, b2⟩ := leaf_i64 Tryd.underlying3 l2
  exact ⟨⟨v0, v1, v2⟩, rfl, b0, b1, b2⟩
theorem open_st (hv : Value.okWide Tryd.prog w r b0 75 v) (h : DataW.Trod enc Tryd.prog w base spare held 75 v d ps) : ∃ T : Stp, v = .agg #[.int .i64 T.el, .int .i64 T.in_, .int .i64 T.out_] ∧ StpI T := by
  obtain ⟨cs, rfl, hL⟩ := open_flat (n := 3) (l := [3, 3, 3]) Tryd.underlying75 (by kernel_rfl) hv h
  obtain ⟨T, rfl, hT⟩ := leaves_st hL
  exact ⟨T, rfl, hT⟩
theorem leaf_sts {c : Value} (h : Leaf enc Tryd.prog w base spare held 30 c) : ∃ A xs cap, c = .slice A (List.length xs) cap ∧ Rd w A 3 Stc xs ∧ xs.length ≤ maxLen ∧ xs.length ≤ cap ∧ ∀ (i : Nat) (x : Stp), xs[i]? = some x → StpI x :=
  leaf_slice (n := 3) (en := Stc) (Q := StpI) Tryd.underlying30 (l := [3, 3, 3]) (by kernel_rfl) (by decide) (fun cs hl => leaves_st hl) h
theorem open_sts (hv : Value.okWide Tryd.prog w r b0 30 v) (h : DataW.Trod enc Tryd.prog w base spare held 30 v d ps) : ∃ A xs cap, v = .slice A (List.length xs) cap ∧ Rd w A 3 Stc xs ∧ xs.length ≤ maxLen ∧ xs.length ≤ cap ∧ ∀ (i : Nat) (x : Stp), xs[i]? = some x → StpI x :=
  leaf_sts (open_leaf (n := 0) Tryd.underlying30 hv h)
end
def Strc (s : ByteArray) : List Value := [.string s]
theorem Strc_len (s : ByteArray) : (Strc s).length = 1 := rfl
theorem Strc_one (s : ByteArray) : ∀ u ∈ Strc s, u.oneCell' = true := by intro u hu; simp [Strc] at hu; subst hu; rfl
theorem rd_tx {w wr : World} {A : Option Addr} {p : List ByteArray} {k : Nat} (h : Rd w A 1 Strc p) (hb : Ext w wr) (hk : k < p.length) :
    ∃ b off s, A = some ⟨b, off, none⟩ ∧ p[k]? = some s ∧ b < wr.heap.size ∧ wr.cell? ⟨b, off + k * 1, none⟩ = some (.string s) ∧ wr.cell? ⟨b, off + k, none⟩ = some (.string s) := by
  obtain ⟨b, off, rfl, h1, h2⟩ := h.keep hb (by omega)
  obtain ⟨s, hs⟩ : ∃ s, p[k]? = some s := ⟨_, List.getElem?_eq_getElem hk⟩
  have := h2 k s hs 0 _ rfl
  exact ⟨b, off, s, rfl, hs, h1, this, by simpa using this⟩
/-- A layout as a value: where its lists lie, and what they hold. -/
structure Lay where
  name : ByteArray
  aS : Option Addr
  secs : List ByteArray
  cS : Nat
  aE : Option Addr
  els : List Elm
  cE : Nat
  aJ : Option Addr
  jts : List Jnt
  cJ : Nat
  aG : Option Addr
  sgs : List Sgl
  cG : Nat
  aB : Option Addr
  bals : List Bls
  cB : Nat
structure LayOk (w : World) (L : Lay) : Prop where
  hN : L.name.size ≤ maxLen
  hS : Rd w L.aS 1 Strc L.secs
  hE : Rd w L.aE 7 Elc L.els
  hJ : Rd w L.aJ 4 Jtc L.jts
  hG : Rd w L.aG 4 Sic L.sgs
  hB : Rd w L.aB 3 Bac L.bals
  lS : L.secs.length ≤ maxLen
  lE : L.els.length ≤ maxLen
  lJ : L.jts.length ≤ maxLen
  lG : L.sgs.length ≤ maxLen
  lB : L.bals.length ≤ maxLen
  iS : ∀ (i : Nat) (x : ByteArray), L.secs[i]? = some x → x.size ≤ maxLen
  iE : ∀ (i : Nat) (x : Elm), L.els[i]? = some x → ElmI x
  iJ : ∀ (i : Nat) (x : Jnt), L.jts[i]? = some x → JntI x
  iG : ∀ (i : Nat) (x : Sgl), L.sgs[i]? = some x → SglI x
  iB : ∀ (i : Nat) (x : Bls), L.bals[i]? = some x → BlsI x
theorem LayOk.keep {w w' : World} {L : Lay} (h : LayOk w L) (hb : Ext w w') : LayOk w' L :=
  { h with hS := h.hS.keep hb, hE := h.hE.keep hb, hJ := h.hJ.keep hb, hG := h.hG.keep hb, hB := h.hB.keep hb }
section
variable {H : Type} {enc : TypeId × Value → H} {w : World} {base b0 : Nat} {spare : Nat → Bool} {held : Bool} {r : Reach} {v : Value} {d : DataW H} {ps : List MemPlace}
theorem leaf_txs {c : Value} (h : Leaf enc Tryd.prog w base spare held 22 c) : ∃ A xs cap, c = .slice A (List.length xs) cap ∧ Rd w A 1 Strc xs ∧ xs.length ≤ maxLen ∧ xs.length ≤ cap ∧ ∀ (i : Nat) (x : ByteArray), xs[i]? = some x → x.size ≤ maxLen :=
  leaf_slice (n := 3) (en := Strc) (Q := fun x => x.size ≤ maxLen) Tryd.underlying22 (l := [9]) (by kernel_rfl) (by decide) (fun cs hl => by
    obtain ⟨c0, r0, rfl, l0, hl⟩ := leaves_cons hl
    obtain rfl := leaves_nil hl
    obtain ⟨v0, rfl, b0⟩ := leaf_str Tryd.underlying9 l0
    exact ⟨v0, rfl, b0⟩) h
theorem open_lay (hv : Value.okWide Tryd.prog w r b0 28 v) (h : DataW.Trod enc Tryd.prog w base spare held 28 v d ps) : ∃ L : Lay, v = .agg #[.string L.name, .slice L.aS L.secs.length L.cS, .slice L.aE L.els.length L.cE, .slice L.aJ L.jts.length L.cJ, .slice L.aG L.sgs.length L.cG, .slice L.aB L.bals.length L.cB] ∧ LayOk w L := by
  obtain ⟨cs, rfl, hL⟩ := open_flat (n := 3) (l := [9, 22, 23, 24, 25, 26]) Tryd.underlying28 (by kernel_rfl) hv h
  obtain ⟨c0, r0, rfl, l0, hL⟩ := leaves_cons hL
  obtain ⟨c1, r1, rfl, l1, hL⟩ := leaves_cons hL
  obtain ⟨c2, r2, rfl, l2, hL⟩ := leaves_cons hL
  obtain ⟨c3, r3, rfl, l3, hL⟩ := leaves_cons hL
  obtain ⟨c4, r4, rfl, l4, hL⟩ := leaves_cons hL
  obtain ⟨c5, r5, rfl, l5, hL⟩ := leaves_cons hL
  obtain rfl := leaves_nil hL
  obtain ⟨v0, rfl, b0⟩ := leaf_str Tryd.underlying9 l0
  obtain ⟨A1, x1, n1, rfl, h1, g1, _, i1⟩ := leaf_txs l1
  obtain ⟨A2, x2, n2, rfl, h2, g2, _, i2⟩ := leaf_els l2
  obtain ⟨A3, x3, n3, rfl, h3, g3, _, i3⟩ := leaf_jts l3
  obtain ⟨A4, x4, n4, rfl, h4, g4, _, i4⟩ := leaf_sgs l4
  obtain ⟨A5, x5, n5, rfl, h5, g5, _, i5⟩ := leaf_bas l5
  exact ⟨⟨v0, A1, x1, n1, A2, x2, n2, A3, x3, n3, A4, x4, n4, A5, x5, n5⟩, rfl, ⟨b0, h1, h2, h3, h4, h5, g1, g2, g3, g4, g5, i1, i2, i3, i4, i5⟩⟩
end
end Go.Proofs.YticonpjkcocgeaaDoor

set_option linter.unusedVariables false
set_option linter.unusedSimpArgs false
set_option maxRecDepth 100000
namespace Go.Proofs.YticonpjkcocgeaaDoor
open Go.ChangeShapes Go.WideShapes Go.ChangeAt Go.RowKit
open Sg

/-- The rows of the table of the passages. -/
def rowsP : List (Int × Int × Int × Int) := [(1, 0, 1, 0), (1, 1, 0, 0), (2, 0, 1, 1), (2, 0, 2, 2), (2, 1, 0, 1), (2, 2, 0, 2), (3, 0, 1, 0), (3, 1, 0, 0), (3, 2, 3, 0), (3, 3, 2, 0)]
/-- The table, as it lies in memory. -/
def pasL : List Value := [.int .i64 1, .int .i64 0, .int .i64 1, .int .i64 0, .int .i64 1, .int .i64 1, .int .i64 0, .int .i64 0, .int .i64 2, .int .i64 0, .int .i64 1, .int .i64 1, .int .i64 2, .int .i64 0, .int .i64 2, .int .i64 2, .int .i64 2, .int .i64 1, .int .i64 0, .int .i64 1, .int .i64 2, .int .i64 2, .int .i64 0, .int .i64 2, .int .i64 3, .int .i64 0, .int .i64 1, .int .i64 0, .int .i64 3, .int .i64 1, .int .i64 0, .int .i64 0, .int .i64 3, .int .i64 2, .int .i64 3, .int .i64 0, .int .i64 3, .int .i64 3, .int .i64 2, .int .i64 0]
def pasV : Value := .agg pasL.toArray
/-- The package's table stands. -/
def Tabs (w : World) : Prop := 0 < w.heap.size ∧ ∀ j v, pasL[j]? = some v → w.cell? ⟨0, j, none⟩ = some v
theorem Tabs.keep {w w' : World} (h : Tabs w) (hb : Ext w w') : Tabs w' :=
  ⟨Nat.lt_of_lt_of_le h.1 hb.size, fun j v hj => (hb.cell (p := ⟨0, j, none⟩) h.1).trans (h.2 j v hj)⟩
theorem rows_at {P : Nat → Int → Int → Int → Int → Prop} (h : P 0 1 0 1 0 ∧ P 1 1 1 0 0 ∧ P 2 2 0 1 1 ∧ P 3 2 0 2 2 ∧ P 4 2 1 0 1 ∧ P 5 2 2 0 2 ∧ P 6 3 0 1 0 ∧ P 7 3 1 0 0 ∧ P 8 3 2 3 0 ∧ P 9 3 3 2 0) {j : Nat} {a b c n : Int} (hr : rowsP[j]? = some (a, b, c, n)) : P j a b c n := by
  have hj : j < 10 := (List.getElem?_eq_some_iff.1 hr).1
  have key : j = 0 ∨ j = 1 ∨ j = 2 ∨ j = 3 ∨ j = 4 ∨ j = 5 ∨ j = 6 ∨ j = 7 ∨ j = 8 ∨ j = 9 := by omega
  obtain ⟨h0, h1, h2, h3, h4, h5, h6, h7, h8, h9⟩ := h
  rcases key with rfl | rfl | rfl | rfl | rfl | rfl | rfl | rfl | rfl | rfl <;> (simp [rowsP] at hr; obtain ⟨rfl, rfl, rfl, rfl⟩ := hr; assumption)
theorem idx_pas {j : Nat} {a b c n : Int} (hr : rowsP[j]? = some (a, b, c, n)) (w : World) : (Instr.index 150 pasV (.int .i64 j)).run Tryd.prog w = .ok (.agg #[.int .i64 a, .int .i64 b, .int .i64 c, .int .i64 n]) w :=
  rows_at (P := fun j a b c n => (Instr.index 150 pasV (.int .i64 j)).run Tryd.prog w = .ok (.agg #[.int .i64 a, .int .i64 b, .int .i64 c, .int .i64 n]) w) ⟨rfl, rfl, rfl, rfl, rfl, rfl, rfl, rfl, rfl, rfl⟩ hr
theorem need_row {j : Nat} {a b c n : Int} (hr : rowsP[j]? = some (a, b, c, n)) : needO a b c = some n :=
  rows_at (P := fun j a b c n => needO a b c = some n) ⟨rfl, rfl, rfl, rfl, rfl, rfl, rfl, rfl, rfl, rfl⟩ hr
theorem need_none {k i o : Int} (h0 : ¬ (k = 1 ∧ i = 0 ∧ o = 1)) (h1 : ¬ (k = 1 ∧ i = 1 ∧ o = 0)) (h2 : ¬ (k = 2 ∧ i = 0 ∧ o = 1)) (h3 : ¬ (k = 2 ∧ i = 0 ∧ o = 2)) (h4 : ¬ (k = 2 ∧ i = 1 ∧ o = 0)) (h5 : ¬ (k = 2 ∧ i = 2 ∧ o = 0)) (h6 : ¬ (k = 3 ∧ i = 0 ∧ o = 1)) (h7 : ¬ (k = 3 ∧ i = 1 ∧ o = 0)) (h8 : ¬ (k = 3 ∧ i = 2 ∧ o = 3)) (h9 : ¬ (k = 3 ∧ i = 3 ∧ o = 2)) : needO k i o = none := by
  unfold needO
  rw [if_neg (by rintro ⟨rfl, ⟨rfl, rfl⟩ | ⟨rfl, rfl⟩⟩ <;> simp_all), if_neg (by rintro ⟨rfl, ⟨rfl, rfl⟩ | ⟨rfl, rfl⟩ | ⟨rfl, rfl⟩ | ⟨rfl, rfl⟩⟩ <;> simp_all), if_neg (by rintro ⟨rfl, ⟨rfl, rfl⟩ | ⟨rfl, rfl⟩⟩ <;> simp_all), if_neg (by rintro ⟨rfl, ⟨rfl, rfl⟩ | ⟨rfl, rfl⟩⟩ <;> simp_all)]
/-- No row ahead of j is the one. -/
def PasTo (k i o : Int) (j : Nat) : Prop := ∀ m a b c n, m < j → rowsP[m]? = some (a, b, c, n) → ¬ (k = a ∧ i = b ∧ o = c)
theorem PasTo.step {k i o : Int} {j : Nat} {a b c n : Int} (h : PasTo k i o j) (hr : rowsP[j]? = some (a, b, c, n)) (hn : ¬ (k = a ∧ i = b ∧ o = c)) : PasTo k i o (j + 1) := fun m a' b' c' n' hm hr' => by
  by_cases e : m = j
  · subst e; rw [hr] at hr'; cases hr'; exact hn
  · exact h m a' b' c' n' (by omega) hr'
theorem PasTo.none {k i o : Int} (h : PasTo k i o 10) : needO k i o = none :=
  need_none (h 0 _ _ _ _ (by omega) rfl) (h 1 _ _ _ _ (by omega) rfl) (h 2 _ _ _ _ (by omega) rfl) (h 3 _ _ _ _ (by omega) rfl) (h 4 _ _ _ _ (by omega) rfl) (h 5 _ _ _ _ (by omega) rfl) (h 6 _ _ _ _ (by omega) rfl) (h 7 _ _ _ _ (by omega) rfl) (h 8 _ _ _ _ (by omega) rfl) (h 9 _ _ _ _ (by omega) rfl)
theorem rows_get {j : Nat} (h : j < 10) : ∃ a b c n, rowsP[j]? = some (a, b, c, n) := by
  obtain ⟨⟨a, b, c, n⟩, hr⟩ : ∃ r, rowsP[j]? = some r := ⟨_, List.getElem?_eq_getElem (show j < rowsP.length from h)⟩
  exact ⟨a, b, c, n, hr⟩
theorem ret_ib {a b : Int} {c d : Bool} (h : a = b) (g : c = d) : Ending.returned (.tuple #[.int .i64 a, .bool c]) = .returned (.tuple #[.int .i64 b, .bool d]) := by rw [h, g]
set_option maxHeartbeats 8000000 in
theorem need_any (k i o : Int) (w : World) (hT : Tabs w) : Calls Tryd.prog 106 #[.int .i64 k, .int .i64 i, .int .i64 o] w fun e w' => e = .returned (.tuple #[.int .i64 (needV k i o), .bool (needB k i o)]) ∧ Below w.heap.size w w' := by
  have HT : Hid (Tabs w) := hT
  clear hT
  go_enter Tryd.func106, Tryd.ntmps106
  go_upto_region 1 with (fail)
  apply wp_region_lit
  refine wpList_load_mid rfl 150 _ rfl 0 0 rfl pasL _ (fun j v hj => by rw [Nat.zero_add]; exact HT.out.2 j v hj) Tryd.underlying150 rfl (by kernel_rfl) ?_
  have hpv : Value.agg pasL.toArray = pasV := rfl
  rw [hpv]
  clear HT hpv
  go_wp2
  go_loopg [11] 10 (fun g ix wr => ∃ j : Nat, ix = .int .i64 j ∧ j ≤ 10 ∧ g = 10 - j ∧ Hid (Ext w wr ∧ PasTo k i o j))
  case atStart => exact ⟨0, rfl, by omega, rfl, Ext.refl _, fun m a b c n hm => absurd hm (by omega)⟩
  case round =>
    obtain ⟨j, rfl, hj, hg, H⟩ := hrel
    have HG := Lib.hid hg
    clear hg
    by_cases hlt : j < 10
    · obtain ⟨a, b, c, n, hr⟩ := rows_get hlt
      have HR := Lib.hid hr
      have hx := idx_pas hr wr
      clear hr
      by_cases q1 : k = a
      · subst q1
        by_cases q2 : i = b
        · subst q2
          by_cases q3 : o = c
          · subst q3
            have HN : Hid (needO k i o = some n) := need_row HR.out
            go_wp2
            go_ret2
            exact ⟨ret_ib (by rw [needV, HN.out]; rfl) (by rw [needB, HN.out]; rfl), eal H.out.1 _⟩
          · have HN : Hid (PasTo k i o (j + 1)) := H.out.2.step HR.out (fun h => q3 h.2.2)
            have p3 : (c == o) = false := by simp; omega
            clear q3
            go_wp2
            go_roundg (10 - (j + 1))
            case measure => have := HG.out; omega
            case rel => exact ⟨j + 1, rfl, by omega, rfl, eal H.out.1 _, HN.out⟩
        · have HN : Hid (PasTo k i o (j + 1)) := H.out.2.step HR.out (fun h => q2 h.2.1)
          have p2 : (b == i) = false := by simp; omega
          clear q2
          go_wp2
          go_roundg (10 - (j + 1))
          case measure => have := HG.out; omega
          case rel => exact ⟨j + 1, rfl, by omega, rfl, eal H.out.1 _, HN.out⟩
      · have HN : Hid (PasTo k i o (j + 1)) := H.out.2.step HR.out (fun h => q1 h.1)
        have p1 : (a == k) = false := by simp; omega
        clear q1
        go_wp2
        go_roundg (10 - (j + 1))
        case measure => have := HG.out; omega
        case rel => exact ⟨j + 1, rfl, by omega, rfl, eal H.out.1 _, HN.out⟩
    · have e : j = 10 := by omega
      subst e
      have HN : Hid (needO k i o = none) := H.out.2.none
      go_wp2
      go_ret2
      exact ⟨ret_ib (by rw [needV, HN.out]; rfl) (by rw [needB, HN.out]; rfl), H.out.1⟩
end Go.Proofs.YticonpjkcocgeaaDoor

set_option linter.unusedVariables false
set_option linter.unusedSimpArgs false
set_option maxRecDepth 100000
namespace Go.Proofs.YticonpjkcocgeaaDoor
open Go.ChangeShapes Go.WideShapes Go.ChangeAt Go.RowKit
open Sg

theorem rneed_leaf {k i o n : Int} {b : Bool} {w : World} (h : needO k i o = if b = true then some n else none) (h0 : b = false → n = 0) : Ending.returned (.tuple #[.int .i64 n, .bool b]) = .returned (.tuple #[.int .i64 (needV k i o), .bool (needB k i o)]) ∧ Below w.heap.size w w := by
  refine ⟨?_, Ext.refl _⟩
  unfold needV needB
  rw [h]
  cases b
  · rw [h0 rfl]; rfl
  · rfl
set_option maxHeartbeats 8000000 in
theorem rneed_any (k i o : Int) (w : World) : Calls Tryd.prog 110 #[.int .i64 k, .int .i64 i, .int .i64 o] w fun e w' => e = .returned (.tuple #[.int .i64 (needV k i o), .bool (needB k i o)]) ∧ Below w.heap.size w w' := by
  by_cases k1 : k = 1
  · subst k1
    go_enter Tryd.func110, Tryd.ntmps110
    go_wp2
    all_goals go_ret2
    all_goals refine rneed_leaf ?_ (by simp)
    all_goals (unfold needO; repeat' split)
    all_goals first | rfl | (exfalso; omega) | simp_all
  by_cases k3 : k = 3
  · subst k3
    clear k1
    go_enter Tryd.func110, Tryd.ntmps110
    go_wp2
    all_goals go_ret2
    all_goals refine rneed_leaf ?_ (by simp)
    all_goals (unfold needO; repeat' split)
    all_goals first | rfl | (exfalso; omega) | simp_all
  by_cases k2 : k = 2
  · subst k2
    clear k1 k3
    rcases Int.lt_or_le i o with hio | hio
    · go_enter Tryd.func110, Tryd.ntmps110
      go_wp2
      all_goals go_ret2
      all_goals refine rneed_leaf ?_ (by simp)
      all_goals (unfold needO; repeat' split)
      all_goals first | rfl | (exfalso; omega) | simp_all
    · go_enter Tryd.func110, Tryd.ntmps110
      go_wp2
      all_goals go_ret2
      all_goals refine rneed_leaf ?_ (by simp)
      all_goals (unfold needO; repeat' split)
      all_goals first | rfl | (exfalso; omega) | simp_all
  · have b1 : (k == 1) = false := by simp; omega
    have b2 : (k == 2) = false := by simp; omega
    have b3 : (k == 3) = false := by simp; omega
    have HN : Hid (needO k i o = none) := (by unfold needO; rw [if_neg (by omega), if_neg (by omega), if_neg (by omega), if_neg (by omega)] : needO k i o = none)
    clear k1 k2 k3
    go_enter Tryd.func110, Tryd.ntmps110
    go_wp2
    all_goals go_ret2
    all_goals exact rneed_leaf HN.out (by simp)
end Go.Proofs.YticonpjkcocgeaaDoor

set_option linter.unusedVariables false
set_option linter.unusedSimpArgs false
set_option maxRecDepth 100000
namespace Go.Proofs.YticonpjkcocgeaaDoor
open Go.ChangeShapes Go.WideShapes Go.ChangeAt Go.RowKit
open Sg

theorem no_pair {a b c d : Int} (h : ¬ (a = c ∧ b = d)) : (a == c) = false ∨ ((a == c) = true ∧ (b == d) = false) := by
  by_cases q : a = c
  · refine .inr ⟨by simp [q], ?_⟩
    have : ¬ b = d := fun e => h ⟨q, e⟩
    simpa using this
  · exact .inl (by simpa using q)
/-- The end's box, and the result's variable. -/
def JBox (n : Nat) (e : Sg.End) (wr : World) : Prop := n + 1 + 1 < wr.heap.size ∧ wr.cell? ⟨n + 1, 0, none⟩ = some (.int .i64 e.el) ∧ wr.cell? ⟨n + 1, 1, none⟩ = some (.int .i64 e.side) ∧ wr.cell? ⟨n + 1 + 1, 0, none⟩ = some (.int .i64 0) ∧ wr.cell? ⟨n + 1 + 1, 1, none⟩ = some (.int .i64 0) ∧ wr.frozen? ⟨n + 1 + 1, 0, none⟩ = false ∧ wr.frozen? ⟨n + 1 + 1, 1, none⟩ = false
theorem JBox.keep {n : Nat} {e : Sg.End} {u w : World} (h : JBox n e u) (hx : Ext u w) : JBox n e w := by
  obtain ⟨h0, h1, h2, h3, h4, h5, h6⟩ := h
  refine ⟨Nat.lt_of_lt_of_le h0 hx.size, (hx.cell (p := ⟨n + 1, 0, none⟩) (by show n + 1 < _; omega)).trans h1, (hx.cell (p := ⟨n + 1, 1, none⟩) (by show n + 1 < _; omega)).trans h2, (hx.cell (p := ⟨n + 1 + 1, 0, none⟩) h0).trans h3, (hx.cell (p := ⟨n + 1 + 1, 1, none⟩) h0).trans h4, (hx.frozen (p := ⟨n + 1 + 1, 0, none⟩) h0).trans h5, (hx.frozen (p := ⟨n + 1 + 1, 1, none⟩) h0).trans h6⟩
set_option maxHeartbeats 8000000 in
theorem joined_any (L : Lay) (e : Sg.End) (w : World) (hL : LayOk w L) : Calls Tryd.prog 104 #[.agg #[.string L.name, .slice L.aS L.secs.length L.cS, .slice L.aE L.els.length L.cE, .slice L.aJ L.jts.length L.cJ, .slice L.aG L.sgs.length L.cG, .slice L.aB L.bals.length L.cB], .agg #[.int .i64 e.el, .int .i64 e.side]] w fun r w' => r = .returned (.tuple #[.agg #[.int .i64 (joinV L.jts e).el, .int .i64 (joinV L.jts e).side], .bool (joinB L.jts e)]) ∧ Below w.heap.size w w' := by
  have HR := Lib.hid hL.hJ
  have hm := hL.lJ
  unfold maxLen at hm
  clear hL
  go_enter Tryd.func104, Tryd.ntmps104
  go_wp2
  go_loopg [11] L.jts.length (fun g ix wr => ∃ k : Nat, ix = .int .i64 k ∧ k ≤ L.jts.length ∧ g = L.jts.length - k ∧ Hid (Ext w wr ∧ JBox w.heap.size e wr ∧ joinO (L.jts.drop k) e = joinO L.jts e))
  case atStart => exact ⟨0, rfl, by omega, rfl, eal (eal (eal (Ext.refl _) _) _) _, ⟨by simp, by simp [go_sem], by simp [go_sem], by simp [go_sem], by simp [go_sem], by simp [go_sem], by simp [go_sem]⟩, rfl⟩
  case round =>
    obtain ⟨k, rfl, hk, hg, H⟩ := hrel
    have HG := Lib.hid hg
    clear hg
    by_cases hlt : k < L.jts.length
    · obtain ⟨b, off, j, hA, hs, hbs, c0, c1, c2, c3⟩ := rd_jt HR.out H.out.1 hlt
      have hJ := joinO_drop hs e
      rw [H.out.2.2] at hJ
      obtain ⟨g0, g1, g2, g3, g4, g5, g6⟩ := H.out.2.1
      have g7 : w.heap.size + 1 < wr.heap.size := by omega
      clear hs
      by_cases qa : j.ae = e.el ∧ j.as_ = e.side
      · rw [if_pos qa] at hJ
        have HJ := Lib.hid hJ
        have a1 : (j.ae == e.el) = true := by simp [qa.1]
        have a2 : (j.as_ == e.side) = true := by simp [qa.2]
        clear qa hJ
        rw [hA]
        clear hA
        go_wp2
        (try simp only [Exit.inBlock, Exit.then])
        exact bodyPost_ret (v := .tuple #[.agg #[.int .i64 (joinV L.jts e).el, .int .i64 (joinV L.jts e).side], .bool (joinB L.jts e)]) (by rw [joinV, joinB, HJ.out]; simp [results, Tryd.results104, go_sem, g0, g3, g4, g5, g6, g7]) rfl ⟨rfl, eal (eset (eset H.out.1 (by omega) _ _) (by omega) _ _) _⟩
      · rw [if_neg qa] at hJ
        have ka := no_pair qa
        clear qa
        by_cases qb : j.be = e.el ∧ j.bs = e.side
        · rw [if_pos qb] at hJ
          have HJ := Lib.hid hJ
          have b1 : (j.be == e.el) = true := by simp [qb.1]
          have b2 : (j.bs == e.side) = true := by simp [qb.2]
          clear qb hJ
          rw [hA]
          clear hA
          rcases ka with a1 | ⟨a1, a2⟩
          all_goals go_wp2
          all_goals (try simp only [Exit.inBlock, Exit.then])
          all_goals exact bodyPost_ret (v := .tuple #[.agg #[.int .i64 (joinV L.jts e).el, .int .i64 (joinV L.jts e).side], .bool (joinB L.jts e)]) (by rw [joinV, joinB, HJ.out]; simp [results, Tryd.results104, go_sem, g0, g3, g4, g5, g6, g7]) rfl ⟨rfl, eal (eset (eset H.out.1 (by omega) _ _) (by omega) _ _) _⟩
        · rw [if_neg qb] at hJ
          have HJ := Lib.hid hJ.symm
          have kb := no_pair qb
          clear qb hJ
          rw [hA]
          have HA := Lib.hid hA
          clear hA
          have HX : Hid (JBox w.heap.size e wr) := ⟨g0, g1, g2, g3, g4, g5, g6⟩
          rcases ka with a1 | ⟨a1, a2⟩ <;> rcases kb with b1 | ⟨b1, b2⟩
          all_goals go_wp2
          all_goals rw [← HA.out]
          all_goals go_roundg (L.jts.length - (k + 1))
          all_goals first | (have := HG.out; omega) | exact ⟨k + 1, by go_num, by omega, rfl, eal H.out.1 _, HX.out.keep (eal (Ext.refl _) _), HJ.out⟩
    · have HJ : Hid (joinO L.jts e = none) := by
        have := H.out.2.2
        rw [List.drop_eq_nil_of_le (by omega)] at this
        exact this.symm
      obtain ⟨g0, g1, g2, g3, g4, g5, g6⟩ := H.out.2.1
      have g7 : w.heap.size + 1 < wr.heap.size := by omega
      go_wp2
      (try simp only [Exit.inBlock, Exit.then])
      exact bodyPost_ret (v := .tuple #[.agg #[.int .i64 (joinV L.jts e).el, .int .i64 (joinV L.jts e).side], .bool (joinB L.jts e)]) (by rw [joinV, joinB, HJ.out]; simp [results, Tryd.results104, go_sem, g0, g3, g4, g5, g6, g7]) rfl ⟨rfl, eset (eset H.out.1 (by omega) _ _) (by omega) _ _⟩
set_option maxHeartbeats 8000000 in
theorem rjoined_any (L : Lay) (e : Sg.End) (w : World) (hL : LayOk w L) : Calls Tryd.prog 91 #[.agg #[.string L.name, .slice L.aS L.secs.length L.cS, .slice L.aE L.els.length L.cE, .slice L.aJ L.jts.length L.cJ, .slice L.aG L.sgs.length L.cG, .slice L.aB L.bals.length L.cB], .agg #[.int .i64 e.el, .int .i64 e.side]] w fun r w' => r = .returned (.tuple #[.agg #[.int .i64 (joinV L.jts e).el, .int .i64 (joinV L.jts e).side], .bool (joinB L.jts e)]) ∧ Below w.heap.size w w' := by
  have HR := Lib.hid hL.hJ
  have hm := hL.lJ
  unfold maxLen at hm
  clear hL
  go_enter Tryd.func91, Tryd.ntmps91
  go_wp2
  go_loopg [11] L.jts.length (fun g ix wr => ∃ k : Nat, ix = .int .i64 k ∧ k ≤ L.jts.length ∧ g = L.jts.length - k ∧ Hid (Ext w wr ∧ JBox w.heap.size e wr ∧ joinO (L.jts.drop k) e = joinO L.jts e))
  case atStart => exact ⟨0, rfl, by omega, rfl, eal (eal (eal (Ext.refl _) _) _) _, ⟨by simp, by simp [go_sem], by simp [go_sem], by simp [go_sem], by simp [go_sem], by simp [go_sem], by simp [go_sem]⟩, rfl⟩
  case round =>
    obtain ⟨k, rfl, hk, hg, H⟩ := hrel
    have HG := Lib.hid hg
    clear hg
    by_cases hlt : k < L.jts.length
    · obtain ⟨b, off, j, hA, hs, hbs, c0, c1, c2, c3⟩ := rd_jt HR.out H.out.1 hlt
      have hJ := joinO_drop hs e
      rw [H.out.2.2] at hJ
      obtain ⟨g0, g1, g2, g3, g4, g5, g6⟩ := H.out.2.1
      have g7 : w.heap.size + 1 < wr.heap.size := by omega
      clear hs
      by_cases qa : j.ae = e.el ∧ j.as_ = e.side
      · rw [if_pos qa] at hJ
        have HJ := Lib.hid hJ
        have a1 : (j.ae == e.el) = true := by simp [qa.1]
        have a2 : (j.as_ == e.side) = true := by simp [qa.2]
        clear qa hJ
        rw [hA]
        clear hA
        go_wp2
        (try simp only [Exit.inBlock, Exit.then])
        exact bodyPost_ret (v := .tuple #[.agg #[.int .i64 (joinV L.jts e).el, .int .i64 (joinV L.jts e).side], .bool (joinB L.jts e)]) (by rw [joinV, joinB, HJ.out]; simp [results, Tryd.results91, go_sem, g0, g3, g4, g5, g6, g7]) rfl ⟨rfl, eal (eset (eset H.out.1 (by omega) _ _) (by omega) _ _) _⟩
      · rw [if_neg qa] at hJ
        have ka := no_pair qa
        clear qa
        by_cases qb : j.be = e.el ∧ j.bs = e.side
        · rw [if_pos qb] at hJ
          have HJ := Lib.hid hJ
          have b1 : (j.be == e.el) = true := by simp [qb.1]
          have b2 : (j.bs == e.side) = true := by simp [qb.2]
          clear qb hJ
          rw [hA]
          clear hA
          rcases ka with a1 | ⟨a1, a2⟩
          all_goals go_wp2
          all_goals (try simp only [Exit.inBlock, Exit.then])
          all_goals exact bodyPost_ret (v := .tuple #[.agg #[.int .i64 (joinV L.jts e).el, .int .i64 (joinV L.jts e).side], .bool (joinB L.jts e)]) (by rw [joinV, joinB, HJ.out]; simp [results, Tryd.results91, go_sem, g0, g3, g4, g5, g6, g7]) rfl ⟨rfl, eal (eset (eset H.out.1 (by omega) _ _) (by omega) _ _) _⟩
        · rw [if_neg qb] at hJ
          have HJ := Lib.hid hJ.symm
          have kb := no_pair qb
          clear qb hJ
          rw [hA]
          have HA := Lib.hid hA
          clear hA
          have HX : Hid (JBox w.heap.size e wr) := ⟨g0, g1, g2, g3, g4, g5, g6⟩
          rcases ka with a1 | ⟨a1, a2⟩ <;> rcases kb with b1 | ⟨b1, b2⟩
          all_goals go_wp2
          all_goals rw [← HA.out]
          all_goals go_roundg (L.jts.length - (k + 1))
          all_goals first | (have := HG.out; omega) | exact ⟨k + 1, by go_num, by omega, rfl, eal H.out.1 _, HX.out.keep (eal (Ext.refl _) _), HJ.out⟩
    · have HJ : Hid (joinO L.jts e = none) := by
        have := H.out.2.2
        rw [List.drop_eq_nil_of_le (by omega)] at this
        exact this.symm
      obtain ⟨g0, g1, g2, g3, g4, g5, g6⟩ := H.out.2.1
      have g7 : w.heap.size + 1 < wr.heap.size := by omega
      go_wp2
      (try simp only [Exit.inBlock, Exit.then])
      exact bodyPost_ret (v := .tuple #[.agg #[.int .i64 (joinV L.jts e).el, .int .i64 (joinV L.jts e).side], .bool (joinB L.jts e)]) (by rw [joinV, joinB, HJ.out]; simp [results, Tryd.results91, go_sem, g0, g3, g4, g5, g6, g7]) rfl ⟨rfl, eset (eset H.out.1 (by omega) _ _) (by omega) _ _⟩
end Go.Proofs.YticonpjkcocgeaaDoor

set_option linter.unusedVariables false
set_option linter.unusedSimpArgs false
set_option maxRecDepth 100000
namespace Go.Proofs.YticonpjkcocgeaaDoor
open Go.ChangeShapes Go.WideShapes Go.ChangeAt Go.RowKit
open Sg

open Classical in
noncomputable def hasB (els : List Elm) (el : Int) : Bool := decide (hasEl els el)
theorem hasB_true {els : List Elm} {el : Int} (h : 0 ≤ el) (g : el < els.length) : hasB els el = true := by simp [hasB, hasEl, h, g]
theorem hasB_low {els : List Elm} {el : Int} (h : el < 0) : hasB els el = false := by unfold hasB; exact decide_eq_false (fun g => by unfold hasEl at g; omega)
theorem hasB_high {els : List Elm} {el : Int} (h : (els.length : Int) ≤ el) : hasB els el = false := by unfold hasB; exact decide_eq_false (fun g => by unfold hasEl at g; omega)
noncomputable def possV (els : List Elm) (s : Stp) : Int := if hasB els s.el = true then needV (elAt els s.el).kind s.in_ s.out_ else 0
noncomputable def possB (els : List Elm) (s : Stp) : Bool := hasB els s.el && needB (elAt els s.el).kind s.in_ s.out_
theorem possB_true {els : List Elm} {s : Stp} : possB els s = true ↔ StepOk els s := by simp [possB, hasB, StepOk]
theorem poss_no {els : List Elm} {s : Stp} (h : hasB els s.el = false) : possV els s = 0 ∧ possB els s = false := by simp [possV, possB, h]
theorem poss_yes {els : List Elm} {s : Stp} {x : Elm} (h : hasB els s.el = true) (hx : elAt els s.el = x) : possV els s = needV x.kind s.in_ s.out_ ∧ possB els s = needB x.kind s.in_ s.out_ := by simp [possV, possB, h, hx]
def nextE (s : Stp) : Sg.End := ⟨s.el, s.out_⟩
theorem exi_any (L : Lay) (el : Int) (w : World) : Calls Tryd.prog 105 #[.agg #[.string L.name, .slice L.aS L.secs.length L.cS, .slice L.aE L.els.length L.cE, .slice L.aJ L.jts.length L.cJ, .slice L.aG L.sgs.length L.cG, .slice L.aB L.bals.length L.cB], .int .i64 el] w fun e w' => e = .returned (.bool (hasB L.els el)) ∧ Below w.heap.size w w' := by
  by_cases k1 : el < 0
  · have HV := Lib.hid (hasB_low (els := L.els) k1)
    have q1 : decide (0 ≤ el) = false := decide_eq_false (by omega)
    clear k1
    go_enter Tryd.func105, Tryd.ntmps105
    go_wp2
    go_ret
    exact ⟨ret_bool HV.out.symm, eal (Ext.refl _) _⟩
  have q1 : decide (0 ≤ el) = true := decide_eq_true (by omega)
  by_cases k2 : (L.els.length : Int) ≤ el
  · have HV := Lib.hid (hasB_high k2)
    have q2 : decide (el < (L.els.length : Int)) = false := decide_eq_false (by omega)
    clear k1 k2
    go_enter Tryd.func105, Tryd.ntmps105
    go_wp2
    go_ret
    exact ⟨ret_bool HV.out.symm, eal (Ext.refl _) _⟩
  · have HV := Lib.hid (hasB_true (els := L.els) (el := el) (by omega) (by omega))
    have q2 : decide (el < (L.els.length : Int)) = true := decide_eq_true (by omega)
    clear k1 k2
    go_enter Tryd.func105, Tryd.ntmps105
    go_wp2
    go_ret
    exact ⟨ret_bool HV.out.symm, eal (Ext.refl _) _⟩
theorem rexi_any (L : Lay) (el : Int) (w : World) : Calls Tryd.prog 109 #[.agg #[.string L.name, .slice L.aS L.secs.length L.cS, .slice L.aE L.els.length L.cE, .slice L.aJ L.jts.length L.cJ, .slice L.aG L.sgs.length L.cG, .slice L.aB L.bals.length L.cB], .int .i64 el] w fun e w' => e = .returned (.bool (hasB L.els el)) ∧ Below w.heap.size w w' := by
  by_cases k1 : el < 0
  · have HV := Lib.hid (hasB_low (els := L.els) k1)
    have q1 : decide (0 ≤ el) = false := decide_eq_false (by omega)
    clear k1
    go_enter Tryd.func109, Tryd.ntmps109
    go_wp2
    go_ret
    exact ⟨ret_bool HV.out.symm, eal (Ext.refl _) _⟩
  have q1 : decide (0 ≤ el) = true := decide_eq_true (by omega)
  by_cases k2 : (L.els.length : Int) ≤ el
  · have HV := Lib.hid (hasB_high k2)
    have q2 : decide (el < (L.els.length : Int)) = false := decide_eq_false (by omega)
    clear k1 k2
    go_enter Tryd.func109, Tryd.ntmps109
    go_wp2
    go_ret
    exact ⟨ret_bool HV.out.symm, eal (Ext.refl _) _⟩
  · have HV := Lib.hid (hasB_true (els := L.els) (el := el) (by omega) (by omega))
    have q2 : decide (el < (L.els.length : Int)) = true := decide_eq_true (by omega)
    clear k1 k2
    go_enter Tryd.func109, Tryd.ntmps109
    go_wp2
    go_ret
    exact ⟨ret_bool HV.out.symm, eal (Ext.refl _) _⟩
set_option maxHeartbeats 8000000 in
theorem poss_any (L : Lay) (s : Stp) (w : World) (hL : LayOk w L) (hT : Tabs w) : Calls Tryd.prog 83 #[.agg #[.string L.name, .slice L.aS L.secs.length L.cS, .slice L.aE L.els.length L.cE, .slice L.aJ L.jts.length L.cJ, .slice L.aG L.sgs.length L.cG, .slice L.aB L.bals.length L.cB], .agg #[.int .i64 s.el, .int .i64 s.in_, .int .i64 s.out_]] w fun e w' => e = .returned (.tuple #[.int .i64 (possV L.els s), .bool (possB L.els s)]) ∧ Below w.heap.size w w' := by
  have HL := Lib.hid hL
  have HT := Lib.hid hT
  clear hT
  cases hh : hasB L.els s.el
  · have HV := Lib.hid (poss_no hh)
    have HH := Lib.hid hh
    clear hh
    go_enter Tryd.func83, Tryd.ntmps83
    go_wp2_with (go_at_call 105; refine (to_after (exi_any L s.el _)).mono ?_; rw [HH.out]; rintro e w' ⟨y, rfl, rfl⟩)
    go_ret2
    exact ⟨ret_ib HV.out.1.symm HV.out.2.symm, etr (eal (eal (Ext.refl _) _) _) y.is⟩
  · have HH := Lib.hid hh
    have h0 : hasEl L.els s.el := by simpa [hasB] using hh
    obtain ⟨k, hk⟩ : ∃ k : Nat, s.el = (k : Int) := ⟨s.el.toNat, by have := h0.1; omega⟩
    have hlt : k < L.els.length := by have := h0.2; omega
    obtain ⟨b, off, x, hA, hs, hbl, c0, c1, c2, c3, c4, c5, c6⟩ := rd_el HL.out.hE (Ext.refl w) hlt
    have hx : elAt L.els s.el = x := by rw [hk]; exact elAt_of hs
    have HV := Lib.hid (poss_yes hh hx)
    have hbl1 : b < w.heap.size + 1 := by omega
    have hbl2 : b < w.heap.size + 1 + 1 := by omega
    have HLm := Lib.hid HL.out.lE
    obtain ⟨el, in_, out_⟩ := s
    obtain rfl : el = (k : Int) := hk
    clear c0 c2 c3 c4 c5 c6 hx hs hh h0 hL
    simp only [] at HV HH ⊢
    rw [hA]
    clear hA
    go_enter Tryd.func83, Tryd.ntmps83
    go_wp2_with (go_at_call 105; refine (to_after (exi_any { L with aE := some ⟨b, off, none⟩ } k _)).mono ?_; rw [HH.out]; rintro e w' ⟨y, rfl, rfl⟩)
    refine wp_region_in y (by kernel_rfl) (by kernel_rfl) ?_
    repeat (first | go_big_quiet_step ((first | (go_at_call 106; exact after_call _ (need_any x.kind in_ out_ _ (HT.out.keep (etr (eal (eal (Ext.refl _) _) _) (After.is _))))))))
    refine wpQuiet_nil ?_
    rintro _ ⟨z, rfl⟩
    go_wp2
    go_ret2
    exact ⟨ret_ib HV.out.1.symm HV.out.2.symm, etr (eal (eal (Ext.refl _) _) _) z.is⟩
set_option maxHeartbeats 8000000 in
theorem rposs_any (L : Lay) (s : Stp) (w : World) (hL : LayOk w L) : Calls Tryd.prog 95 #[.agg #[.string L.name, .slice L.aS L.secs.length L.cS, .slice L.aE L.els.length L.cE, .slice L.aJ L.jts.length L.cJ, .slice L.aG L.sgs.length L.cG, .slice L.aB L.bals.length L.cB], .agg #[.int .i64 s.el, .int .i64 s.in_, .int .i64 s.out_]] w fun e w' => e = .returned (.tuple #[.int .i64 (possV L.els s), .bool (possB L.els s)]) ∧ Below w.heap.size w w' := by
  have HL := Lib.hid hL
  cases hh : hasB L.els s.el
  · have HV := Lib.hid (poss_no hh)
    have HH := Lib.hid hh
    clear hh
    go_enter Tryd.func95, Tryd.ntmps95
    go_wp2_with (go_at_call 109; refine (to_after (rexi_any L s.el _)).mono ?_; rw [HH.out]; rintro e w' ⟨y, rfl, rfl⟩)
    go_ret2
    exact ⟨ret_ib HV.out.1.symm HV.out.2.symm, etr (eal (eal (Ext.refl _) _) _) y.is⟩
  · have HH := Lib.hid hh
    have h0 : hasEl L.els s.el := by simpa [hasB] using hh
    obtain ⟨k, hk⟩ : ∃ k : Nat, s.el = (k : Int) := ⟨s.el.toNat, by have := h0.1; omega⟩
    have hlt : k < L.els.length := by have := h0.2; omega
    obtain ⟨b, off, x, hA, hs, hbl, c0, c1, c2, c3, c4, c5, c6⟩ := rd_el HL.out.hE (Ext.refl w) hlt
    have hx : elAt L.els s.el = x := by rw [hk]; exact elAt_of hs
    have HV := Lib.hid (poss_yes hh hx)
    have hbl1 : b < w.heap.size + 1 := by omega
    have hbl2 : b < w.heap.size + 1 + 1 := by omega
    have HLm := Lib.hid HL.out.lE
    obtain ⟨el, in_, out_⟩ := s
    obtain rfl : el = (k : Int) := hk
    clear c0 c2 c3 c4 c5 c6 hx hs hh h0 hL
    simp only [] at HV HH ⊢
    rw [hA]
    clear hA
    go_enter Tryd.func95, Tryd.ntmps95
    go_wp2_with (go_at_call 109; refine (to_after (rexi_any { L with aE := some ⟨b, off, none⟩ } k _)).mono ?_; rw [HH.out]; rintro e w' ⟨y, rfl, rfl⟩)
    refine wp_region_in y (by kernel_rfl) (by kernel_rfl) ?_
    repeat (first | go_big_quiet_step ((first | (go_at_call 110; exact after_call _ (rneed_any x.kind in_ out_ _)))))
    refine wpQuiet_nil ?_
    rintro _ ⟨z, rfl⟩
    go_wp2
    go_ret2
    exact ⟨ret_ib HV.out.1.symm HV.out.2.symm, etr (eal (eal (Ext.refl _) _) _) z.is⟩
set_option maxHeartbeats 8000000 in
theorem pass_any (L : Lay) (s : Stp) (b : Nat) (w : World) (hL : LayOk w L) (hC : CellsAt w b [.string L.name, .slice L.aS L.secs.length L.cS, .slice L.aE L.els.length L.cE, .slice L.aJ L.jts.length L.cJ, .slice L.aG L.sgs.length L.cG, .slice L.aB L.bals.length L.cB]) : Calls Tryd.prog 103 #[.agg #[.int .i64 s.el, .int .i64 s.in_, .int .i64 s.out_], .pointer (some ⟨b, 0, none⟩)] w fun r w' => r = .returned (.tuple #[.agg #[.int .i64 (joinV L.jts (nextE s)).el, .int .i64 (joinV L.jts (nextE s)).side], .bool (joinB L.jts (nextE s))]) ∧ Below w.heap.size w w' := by
  have HL := Lib.hid hL
  have l0 := hC.1
  have l1 : b < w.heap.size + 1 := by omega
  have l2 : b < w.heap.size + 1 + 1 := by omega
  have c0 := hC.2 0 _ rfl
  have c1 := hC.2 1 _ rfl
  have c2 := hC.2 2 _ rfl
  have c3 := hC.2 3 _ rfl
  have c4 := hC.2 4 _ rfl
  have c5 := hC.2 5 _ rfl
  clear hC hL
  go_enter Tryd.func103, Tryd.ntmps103
  go_wp2_with (go_at_call 104; refine (to_after (joined_any L (nextE s) _ (HL.out.keep (eal (eal (Ext.refl _) _) _)))).mono ?_; rintro e w' ⟨y, rfl, rfl⟩)
  have g0 : w.heap.size + 1 < y.val.heap.size := by have := y.is.size; simp at this; omega
  go_wp2
  exact bodyPost_ret (v := .tuple #[.agg #[.int .i64 (joinV L.jts (nextE s)).el, .int .i64 (joinV L.jts (nextE s)).side], .bool (joinB L.jts (nextE s))]) (by simp [results, Tryd.results103, go_sem, g0]) rfl ⟨rfl, eset (eset (etr (eal (eal (Ext.refl _) _) _) y.is) (by omega) _ _) (by omega) _ _⟩
set_option maxHeartbeats 8000000 in
theorem rnext_any (L : Lay) (s : Stp) (w : World) (hL : LayOk w L) : Calls Tryd.prog 96 #[.agg #[.string L.name, .slice L.aS L.secs.length L.cS, .slice L.aE L.els.length L.cE, .slice L.aJ L.jts.length L.cJ, .slice L.aG L.sgs.length L.cG, .slice L.aB L.bals.length L.cB], .agg #[.int .i64 s.el, .int .i64 s.in_, .int .i64 s.out_]] w fun r w' => r = .returned (.tuple #[.agg #[.int .i64 (joinV L.jts (nextE s)).el, .int .i64 (joinV L.jts (nextE s)).side], .bool (joinB L.jts (nextE s))]) ∧ Below w.heap.size w w' := by
  have HL := Lib.hid hL
  clear hL
  go_enter Tryd.func96, Tryd.ntmps96
  go_wp2_with (go_at_call 91; refine (to_after (rjoined_any L (nextE s) _ (HL.out.keep (eal (eal (eal (Ext.refl _) _) _) _)))).mono ?_; rintro e w' ⟨y, rfl, rfl⟩)
  have g0 : w.heap.size + 1 + 1 < y.val.heap.size := by have := y.is.size; simp at this; omega
  go_wp2
  exact bodyPost_ret (v := .tuple #[.agg #[.int .i64 (joinV L.jts (nextE s)).el, .int .i64 (joinV L.jts (nextE s)).side], .bool (joinB L.jts (nextE s))]) (by simp [results, Tryd.results96, go_sem, g0]) rfl ⟨rfl, eset (eset (etr (eal (eal (eal (Ext.refl _) _) _) _) y.is) (by omega) _ _) (by omega) _ _⟩
theorem passage_any (L : Lay) (w : World) : Calls Tryd.prog 82 #[.agg #[.string L.name, .slice L.aS L.secs.length L.cS, .slice L.aE L.els.length L.cE, .slice L.aJ L.jts.length L.cJ, .slice L.aG L.sgs.length L.cG, .slice L.aB L.bals.length L.cB]] w fun e w' => e = .returned (.func (.func 103) #[] #[.pointer (some ⟨w.heap.size, 0, none⟩)]) ∧ w' = w.alloc (.cells #[.string L.name, .slice L.aS L.secs.length L.cS, .slice L.aE L.els.length L.cE, .slice L.aJ L.jts.length L.cJ, .slice L.aG L.sgs.length L.cG, .slice L.aB L.bals.length L.cB] 28) := by
  have hmf : ∀ (fn : Fn) (first cap : Array Value) (w : World), (Instr.makeFunc fn first cap).run Tryd.prog w = .ok (.func fn first cap) w := fun _ _ _ _ => rfl
  go_enter Tryd.func82, Tryd.ntmps82
  go_wp2
  go_ret
  exact ⟨rfl, rfl⟩
end Go.Proofs.YticonpjkcocgeaaDoor

set_option linter.unusedVariables false
set_option linter.unusedSimpArgs false
set_option maxRecDepth 100000
namespace Go.Proofs.YticonpjkcocgeaaDoor
open Go.ChangeShapes Go.WideShapes Go.ChangeAt Go.RowKit
open Sg

theorem cell_keep {u w : World} {b o : Nat} {v : Value} (l : b < u.heap.size) (h : Ext u w) (g : u.cell? ⟨b, o, none⟩ = some v) : w.cell? ⟨b, o, none⟩ = some v := (h.cell (p := ⟨b, o, none⟩) l).trans g
theorem lt_keep {u w : World} {b : Nat} (l : b < u.heap.size) (h : Ext u w) : b < w.heap.size := Nat.lt_of_lt_of_le l h.size
/-- A layout's box. -/
abbrev LayAt (w : World) (b : Nat) (L : Lay) : Prop := CellsAt w b [.string L.name, .slice L.aS L.secs.length L.cS, .slice L.aE L.els.length L.cE, .slice L.aJ L.jts.length L.cJ, .slice L.aG L.sgs.length L.cG, .slice L.aB L.bals.length L.cB]
theorem layAt_cells {w : World} {b : Nat} {L : Lay} (h : LayAt w b L) : b < w.heap.size ∧ w.cell? ⟨b, 0, none⟩ = some (.string L.name) ∧ w.cell? ⟨b, 1, none⟩ = some (.slice L.aS L.secs.length L.cS) ∧ w.cell? ⟨b, 2, none⟩ = some (.slice L.aE L.els.length L.cE) ∧ w.cell? ⟨b, 3, none⟩ = some (.slice L.aJ L.jts.length L.cJ) ∧ w.cell? ⟨b, 4, none⟩ = some (.slice L.aG L.sgs.length L.cG) ∧ w.cell? ⟨b, 5, none⟩ = some (.slice L.aB L.bals.length L.cB) := ⟨h.1, h.2 0 _ rfl, h.2 1 _ rfl, h.2 2 _ rfl, h.2 3 _ rfl, h.2 4 _ rfl, h.2 5 _ rfl⟩
/-- The elements are as a valid layout's. -/
def ElsOk (els : List Elm) : Prop := ∀ (k : Nat) x, els[k]? = some x → 1 ≤ x.kind ∧ x.kind ≤ 3 ∧ 500 ≤ x.len ∧ x.len ≤ 1000000 ∧ -50 ≤ x.grade ∧ x.grade ≤ 50 ∧ 0 ≤ x.sec
def WayIn (els : List Elm) (way : List Stp) : Prop := ∀ (k : Nat) s, way[k]? = some s → hasEl els s.el
theorem has_at {els : List Elm} {el : Int} (h : hasEl els el) : ∃ (k : Nat) (x : Elm), el = (k : Int) ∧ els[k]? = some x ∧ elAt els el = x := by
  obtain ⟨h1, h2⟩ := h
  obtain ⟨k, rfl⟩ : ∃ k : Nat, el = (k : Int) := ⟨el.toNat, by omega⟩
  exact ⟨k, _, rfl, List.getElem?_eq_getElem (by omega), elAt_of (List.getElem?_eq_getElem (by omega))⟩
theorem beg_bound {els : List Elm} {way : List Stp} {c : Int} (he : ElsOk els) (hw : WayIn els way) : ∀ {k : Nat}, k ≤ way.length → c ≤ begF els way c k ∧ begF els way c k ≤ c + 1000000 * k
  | 0, _ => by simp [begF]
  | k + 1, h => by
    have ih := beg_bound (c := c) he hw (k := k) (by omega)
    have hs : way[k]? = some way[k] := List.getElem?_eq_getElem (by omega)
    rw [begF_succ hs]
    obtain ⟨j, x, _, hx, e⟩ := has_at (hw k _ hs)
    have := he j x hx
    rw [e]
    omega
theorem OwnL.rdn {α : Type} {w : World} {base : Nat} {e : TypeId} {k : Nat} {enc : α → List Value} {v : Value} {xs : List α} (hk : ∀ x, (enc x).length = k) (h : OwnL w base e k enc v xs) : ∃ A cap, v = .slice A xs.length cap ∧ Rd w A k enc xs ∧ xs.length ≤ maxLen ∧ ∀ a, A = some a → base ≤ a.block := by
  obtain ⟨A, cap, rfl, hr, hm⟩ := h.rd hk
  exact ⟨A, cap, rfl, hr, hm, fun a ha => by subst ha; exact (h.lt a.block rfl).1⟩
theorem Rd.only {α : Type} {v w : World} {A : Option Addr} {k b : Nat} {enc : α → List Value} {xs : List α} (h : Rd v A k enc xs) (g : Only b v w) (hb : ∀ a, A = some a → a.block ≠ b) : Rd w A k enc xs := fun h0 => by
  obtain ⟨c, off, e, h1, h2⟩ := h h0
  exact ⟨c, off, e, by rw [g.size]; exact h1, fun i x hi j u hj => (World.cell?_of_block (w := v) (a := ⟨c, off + i * k + j, none⟩) (g.block c (hb _ e))).trans (h2 i x hi j u hj)⟩
abbrev RstAt (w : World) (b : Nat) (r : Rst) : Prop := CellsAt w b (Rsc r)
theorem rstAt_cells {w : World} {b : Nat} {r : Rst} (h : RstAt w b r) : b < w.heap.size ∧ w.cell? ⟨b, 0, none⟩ = some (.int .i64 r.id) ∧ w.cell? ⟨b, 1, none⟩ = some (.int .i64 r.el) ∧ w.cell? ⟨b, 2, none⟩ = some (.int .i64 r.from_) ∧ w.cell? ⟨b, 3, none⟩ = some (.int .i64 r.to_) ∧ w.cell? ⟨b, 4, none⟩ = some (.int .i64 r.speed) ∧ w.cell? ⟨b, 5, none⟩ = some (.bool r.act) := ⟨h.1, h.2 0 _ rfl, h.2 1 _ rfl, h.2 2 _ rfl, h.2 3 _ rfl, h.2 4 _ rfl, h.2 5 _ rfl⟩
theorem rd_el_at {w wr : World} {b off k : Nat} {p : List Elm} {s : Elm} (h : Rd w (some ⟨b, off, none⟩) 7 Elc p) (hb : Ext w wr) (hs : p[k]? = some s) : b < wr.heap.size ∧ wr.cell? ⟨b, off + k * 7, none⟩ = some (.string s.name) ∧ wr.cell? ⟨b, off + k * 7 + 1, none⟩ = some (.int .i64 s.kind) ∧ wr.cell? ⟨b, off + k * 7 + 1 + 1, none⟩ = some (.int .i64 s.len) ∧ wr.cell? ⟨b, off + k * 7 + 1 + 1 + 1, none⟩ = some (.int .i64 s.grade) ∧ wr.cell? ⟨b, off + k * 7 + 1 + 1 + 1 + 1, none⟩ = some (.int .i64 s.speed) ∧ wr.cell? ⟨b, off + k * 7 + 1 + 1 + 1 + 1 + 1, none⟩ = some (.int .i64 s.slow) ∧ wr.cell? ⟨b, off + k * 7 + 1 + 1 + 1 + 1 + 1 + 1, none⟩ = some (.int .i64 s.sec) := by
  obtain ⟨b', off', s', e, hs', h0, h1, h2, h3, h4, h5, h6, h7⟩ := rd_el h hb (List.getElem?_eq_some_iff.1 hs).1
  cases e
  rw [hs] at hs'
  cases hs'
  exact ⟨h0, h1, h2, h3, h4, h5, h6, h7⟩
theorem fwd_key (els : List Elm) (s : Stp) (x : Elm) (hx : elAt els s.el = x) : (fwdS els s = true ∧ ((s.in_ == 0) = true ∨ ((s.in_ == 0) = false ∧ (s.in_ == 2) = true ∧ (x.kind == 3) = true))) ∨ (fwdS els s = false ∧ (((s.in_ == 0) = false ∧ (s.in_ == 2) = true ∧ (x.kind == 3) = false) ∨ ((s.in_ == 0) = false ∧ (s.in_ == 2) = false))) := by
  unfold fwdS
  rw [hx]
  cases (s.in_ == 0) <;> cases (s.in_ == 2) <;> cases (x.kind == 3) <;> simp
theorem setO {w : World} {b : Nat} {us : List Value} (o : Nat) (v : Value) (h : Own w b us) (ho : o < us.length) : ∃ w', w' = w.setCell ⟨b, o, none⟩ v ∧ Own w' b (us.set o v) ∧ Only b w w' := ⟨_, rfl, h.set o ho v, Only.set _ _ _ _⟩
theorem Own.grown {w w' : World} {b : Nat} {vs : List Value} {row : Option Nat} (h : Own w b vs) (hg : w.grownBy w' row) (hb : row ≠ some b) : Own w' b vs :=
  ⟨(h.cells.grown hg hb).1, (h.cells.grown hg hb).2, fun j => (World.frozen?_of_block (w := w) (a := ⟨b, j, none⟩) (hg.block b h.1 (fun e => hb e.symm))).trans (h.2.2 j)⟩
theorem lt_up {a b : Nat} (h : a < b) : a < b + 1 := by omega
theorem OwnL.rdc {α : Type} {w : World} {base : Nat} {e : TypeId} {k : Nat} {enc : α → List Value} {v : Value} {xs : List α} (hk : ∀ x, (enc x).length = k) (h : OwnL w base e k enc v xs) : ∃ A cap, v = .slice A xs.length cap ∧ Rd w A k enc xs ∧ xs.length ≤ maxLen ∧ xs.length ≤ cap := by
  obtain ⟨A, cap, hv, hr, hm⟩ := h.rd hk
  refine ⟨A, cap, hv, hr, hm, ?_⟩
  by_cases h0 : 0 < xs.length
  · obtain ⟨g, cap', hv', hc, _⟩ := h.form h0
    rw [hv] at hv'
    injection hv' with _ _ hcc
    omega
  · omega
def FewL (L : Lay) : Prop := L.secs.length ≤ 60 ∧ L.els.length ≤ 60 ∧ L.jts.length ≤ 100 ∧ L.sgs.length ≤ 60 ∧ L.bals.length ≤ 60
instance (L : Lay) : Decidable (FewL L) := by unfold FewL; infer_instance
def fewB (L : Lay) : Bool := decide (FewL L)
theorem fewB_true {L : Lay} : fewB L = true ↔ FewL L := by simp [fewB]
theorem fewB_false {L : Lay} : fewB L = false ↔ ¬ FewL L := by simp [fewB]
end Go.Proofs.YticonpjkcocgeaaDoor

set_option linter.unusedVariables false
set_option linter.unusedSimpArgs false
set_option maxRecDepth 100000
namespace Go.Proofs.YticonpjkcocgeaaDoor
open Go.ChangeShapes Go.WideShapes Go.ChangeAt Go.RowKit
open Sg

theorem sl_st (A : Option Addr) (n c p : Nat) (q : Int) (hq : q = (p : Int)) (hp : p ≤ c) (w : World) : (Instr.slice 30 (.slice A n c) none (some (.int .i64 q)) none).run Tryd.prog w = .ok (.slice A p c) w := by
  subst hq
  rw [run_slice_h w 30 A n c (by kernel_rfl) .i64 (p : Int) (by omega) (by omega)]
  have hs : (sizeOf (Tryd.prog.elem 30)).run Tryd.prog w = .ok 3 w := by simp [go_sem]
  rw [hs]
  simp only [Result.andThen, sliced, Int.toNat_natCast, Nat.zero_mul, Nat.sub_zero]
  congr 2
  split
  · rfl
  · cases A with
    | none => rfl
    | some a => rfl
attribute [go_sem] sl_st
theorem wayTo_succ {els : List Elm} {jts : List Jnt} {way : List Stp} {k : Nat} {s : Stp} (h : WayTo els jts way k) (hs : way[k]? = some s) (h1 : StepOk els s) (h2 : ∀ j t, j < k → way[j]? = some t → t.el ≠ s.el) (h3 : ∀ t, 0 < k → way[k - 1]? = some t → PairOk jts t s) : WayTo els jts way (k + 1) := fun i t hi ht => by
  by_cases e : i = k
  · subst e; rw [hs] at ht; cases ht; exact ⟨h1, h2, h3⟩
  · exact h i t (by omega) ht
theorem way_no {els : List Elm} {jts : List Jnt} {way : List Stp} {k : Nat} {s : Stp} (hs : way[k]? = some s) (h : StepOk els s → (∀ j t, j < k → way[j]? = some t → t.el ≠ s.el) → (∀ t, 0 < k → way[k - 1]? = some t → PairOk jts t s) → False) : wayB els jts way = false :=
  wayB_false.2 fun hw => h (hw.2.2 k s (List.getElem?_eq_some_iff.1 hs).1 hs).1 (hw.2.2 k s (List.getElem?_eq_some_iff.1 hs).1 hs).2.1 (hw.2.2 k s (List.getElem?_eq_some_iff.1 hs).1 hs).2.2
set_option maxHeartbeats 16000000 in
theorem valid_way (L : Lay) (A : Option Addr) (way : List Stp) (c : Nat) (w : World) (hL : LayOk w L) (hT : Tabs w) (hm : way.length ≤ maxLen) (hc : way.length ≤ c) (hr : Rd w A 3 Stc way) : Calls Tryd.prog 55 #[.agg #[.string L.name, .slice L.aS L.secs.length L.cS, .slice L.aE L.els.length L.cE, .slice L.aJ L.jts.length L.cJ, .slice L.aG L.sgs.length L.cG, .slice L.aB L.bals.length L.cB], .slice A way.length c] w fun e w' => e = .returned (.bool (wayB L.els L.jts way)) ∧ Below w.heap.size w w' := by
  unfold maxLen at hm
  have HL := Lib.hid hL
  have HT := Lib.hid hT
  have HR := Lib.hid hr
  clear hL hT hr
  by_cases k0 : way.length = 0
  · have HV : Hid (wayB L.els L.jts way = false) := wayB_false.2 (fun h => by have := h.1; omega)
    go_enter Tryd.func55, Tryd.ntmps55
    go_wp2
    go_ret
    exact ⟨ret_bool HV.out.symm, eal (Ext.refl _) _⟩
  by_cases k1 : 64 < way.length
  · have HV : Hid (wayB L.els L.jts way = false) := wayB_false.2 (fun h => by have := h.2.1; omega)
    go_enter Tryd.func55, Tryd.ntmps55
    go_wp2
    go_ret
    exact ⟨ret_bool HV.out.symm, eal (Ext.refl _) _⟩
  have HK0 := Lib.hid k0
  have HK1 := Lib.hid k1
  have HC := Lib.hid hc
  have q0 : ((way.length : Int) == 0) = false := by simpa using k0
  have q64 : decide ((64 : Int) < (way.length : Int)) = false := decide_eq_false (by omega)
  go_enter Tryd.func55, Tryd.ntmps55
  go_wp2_with (go_at_call 82; refine (passage_any L _).mono ?_; rintro e w' ⟨rfl, rfl⟩)
  clear k0 k1
  go_loopg [26] way.length (fun g ix wr => ∃ k : Nat, ix = .int .i64 k ∧ k ≤ way.length ∧ g = way.length - k ∧ Hid (Ext w wr ∧ LayAt wr w.heap.size L ∧ LayAt wr (w.heap.size + 1) L ∧ WayTo L.els L.jts way k))
  case atStart =>
    refine ⟨0, rfl, by omega, by omega, eal (eal (Ext.refl _) _) _, CellsAt.keep (CellsAt.new rfl) (eal (Ext.refl _) _), ?_, fun i s hi => absurd hi (by omega)⟩
    have := CellsAt.new (w := w.alloc (.cells #[.string L.name, .slice L.aS L.secs.length L.cS, .slice L.aE L.els.length L.cE, .slice L.aJ L.jts.length L.cJ, .slice L.aG L.sgs.length L.cG, .slice L.aB L.bals.length L.cB] 28)) (cs := #[.string L.name, .slice L.aS L.secs.length L.cS, .slice L.aE L.els.length L.cE, .slice L.aJ L.jts.length L.cJ, .slice L.aG L.sgs.length L.cG, .slice L.aB L.bals.length L.cB]) (t := 28) (b := w.heap.size + 1) (by simp)
    exact this
  case round =>
    obtain ⟨k, rfl, hk, hg, H⟩ := hrel
    have HG := Lib.hid hg
    clear hg
    by_cases hlt : k < way.length
    · obtain ⟨b, off, s, rfl, hs, hbs, c0, c1, c2⟩ := rd_st HR.out H.out.1 hlt
      have HS := Lib.hid hs
      clear hs
      obtain ⟨l0, a0, a1, a2, a3, a4, a5⟩ := layAt_cells H.out.2.1
      have E1 : Hid (Ext w (wr.alloc (.cells #[.int .i64 s.el, .int .i64 s.in_, .int .i64 s.out_] 75))) := eal H.out.1 _
      cases hp : possB L.els s
      · have HV : Hid (wayB L.els L.jts way = false) := way_no HS.out fun h _ _ => by rw [possB_true.2 h] at hp; cases hp
        have HP := Lib.hid hp
        clear hp
        go_wp2_with (go_at_call 83; refine (to_after (poss_any L s _ (HL.out.keep E1.out) (HT.out.keep E1.out))).mono ?_; rw [HP.out]; rintro e w' ⟨y, rfl, rfl⟩)
        go_ret
        exact ⟨ret_bool HV.out.symm, etr E1.out y.is⟩
      · have HO : Hid (StepOk L.els s) := possB_true.1 hp
        have HP := Lib.hid hp
        clear hp
        go_wp2_with (go_at_call 83; refine (to_after (poss_any L s _ (HL.out.keep E1.out) (HT.out.keep E1.out))).mono ?_; rw [HP.out]; rintro e w' ⟨y, rfl, rfl⟩)
        clear a0 a1 a2 a3 a4 a5 c0 c1 c2 l0 hbs
        have E2 : Hid (Ext w y.val) := etr E1.out y.is
        have S0 : Hid (y.val.cell? ⟨wr.heap.size, 0, none⟩ = some (.int .i64 s.el)) := (y.is.cell (p := ⟨wr.heap.size, 0, none⟩) (by simp)).trans (by simp [go_sem])
        have S1 : Hid (y.val.cell? ⟨wr.heap.size, 1, none⟩ = some (.int .i64 s.in_)) := (y.is.cell (p := ⟨wr.heap.size, 1, none⟩) (by simp)).trans (by simp [go_sem])
        have S2 : Hid (wr.heap.size < y.val.heap.size) := by have := y.is.size; simp at this; show _ < _; omega
        have L0 : Hid (LayAt y.val w.heap.size L) := H.out.2.1.keep (etr (eal (Ext.refl _) _) y.is)
        have L1 : Hid (LayAt y.val (w.heap.size + 1) L) := H.out.2.2.1.keep (etr (eal (Ext.refl _) _) y.is)
        have hkc : k ≤ c := by have := HC.out; omega
        go_loopg [43] k (fun g ix wr2 => ∃ j : Nat, ix = .int .i64 j ∧ j ≤ k ∧ g = k - j ∧ Hid (Ext y.val wr2 ∧ ∀ (i : Nat) t, i < j → way[i]? = some t → t.el ≠ s.el))
        case atStart => exact ⟨0, rfl, by omega, by omega, Ext.refl _, fun i t h => absurd h (by omega)⟩
        case round =>
          obtain ⟨j, rfl, hj, hg2, H2⟩ := hrel
          have HG2 := Lib.hid hg2
          clear hg2
          have e0 := cell_keep S2.out H2.out.1 S0.out
          have e1 := cell_keep S2.out H2.out.1 S1.out
          have e2 := lt_keep S2.out H2.out.1
          have E3 : Hid (Ext w wr) := etr E2.out H2.out.1
          by_cases hlt2 : j < k
          · obtain ⟨b', off', t, hA, ht, hbt, d0, d1, d2⟩ := rd_st (k := j) HR.out E3.out (by omega)
            injection hA with hA
            injection hA with hA1 hA2
            subst hA1 hA2
            by_cases he : t.el = s.el
            · have HV : Hid (wayB L.els L.jts way = false) := way_no HS.out fun _ h _ => h j t hlt2 ht he
              have q : (t.el == s.el) = true := by simp [he]
              clear he ht
              go_wp2
              go_ret
              exact ⟨ret_bool HV.out.symm, eal E3.out _⟩
            · have HN : Hid (∀ (i : Nat) t, i < j + 1 → way[i]? = some t → t.el ≠ s.el) := fun i u hi hu => by
                by_cases e : i = j
                · subst e; rw [ht] at hu; cases hu; exact he
                · exact H2.out.2 i u (by omega) hu
              have q : (t.el == s.el) = false := by simpa using he
              clear he ht
              go_wp2
              go_roundg (k - (j + 1))
              case measure => have := HG2.out; omega
              case rel => exact ⟨j + 1, by go_num, by omega, rfl, eal H2.out.1 _, HN.out⟩
          · have HN : Hid (∀ (i : Nat) t, i < k → way[i]? = some t → t.el ≠ s.el) := fun i u hi hu => H2.out.2 i u (by omega) hu
            by_cases hk0 : k = 0
            · have HW : Hid (WayTo L.els L.jts way (k + 1)) := wayTo_succ H.out.2.2.2 HS.out HO.out HN.out (fun t h => absurd h (by omega))
              go_wp2
              go_roundg (way.length - (k + 1))
              case measure => have := HG.out; omega
              case rel => exact ⟨k + 1, by go_num, by omega, rfl, E3.out, L0.out.keep H2.out.1, L1.out.keep H2.out.1, HW.out⟩
            · obtain ⟨b', off', t, hA, ht, hbt, d0, d1, d2⟩ := rd_st (k := k - 1) HR.out E3.out (by omega)
              injection hA with hA
              injection hA with hA1 hA2
              subst hA1 hA2
              have HTK := Lib.hid ht
              clear ht
              have hk0n : 0 < k := by omega
              have hkp : (0 : Int) < k := by omega
              have L2 : Hid (LayAt wr (w.heap.size + 1) L) := L1.out.keep H2.out.1
              cases jb : joinB L.jts (nextE t)
              · have HV : Hid (wayB L.els L.jts way = false) := way_no HS.out fun _ _ h => by have := (h t hk0n HTK.out).1; rw [show (⟨t.el, t.out_⟩ : Sg.End) = nextE t from rfl, jb] at this; cases this
                have JB := Lib.hid jb
                clear jb
                go_wp2_with (go_at_call 103; refine (to_after (pass_any L t (w.heap.size + 1) _ (HL.out.keep E3.out) L2.out)).mono ?_; rw [JB.out]; rintro e w' ⟨y, rfl, rfl⟩)
                go_ret
                exact ⟨ret_bool HV.out.symm, eal (etr E3.out (After.is _)) _⟩
              · have JB := Lib.hid jb
                by_cases hj1 : (joinV L.jts (nextE t)).el = s.el
                · have q1 : ((joinV L.jts (nextE t)).el != s.el) = false := by simp [hj1]
                  by_cases hj2 : (joinV L.jts (nextE t)).side = s.in_
                  · have q2 : ((joinV L.jts (nextE t)).side != s.in_) = false := by simp [hj2]
                    have HW : Hid (WayTo L.els L.jts way (k + 1)) := wayTo_succ H.out.2.2.2 HS.out HO.out HN.out (fun u _ hu => by rw [HTK.out] at hu; cases hu; exact ⟨jb, hj1, hj2⟩)
                    clear jb hj1 hj2
                    go_wp2_with (go_at_call 103; refine (to_after (pass_any L t (w.heap.size + 1) _ (HL.out.keep E3.out) L2.out)).mono ?_; rw [JB.out]; rintro e w' ⟨z, rfl, rfl⟩; have e5 := lt_keep e2 (After.is z))
                    go_roundg (way.length - (k + 1))
                    case measure => have := HG.out; omega
                    case rel => exact ⟨k + 1, by go_num, by omega, rfl, eal (etr E3.out (After.is _)) _, L0.out.keep (eal (etr H2.out.1 (After.is _)) _), L1.out.keep (eal (etr H2.out.1 (After.is _)) _), HW.out⟩
                  · have HV : Hid (wayB L.els L.jts way = false) := way_no HS.out fun _ _ h => hj2 (h t hk0n HTK.out).2.2
                    have q2 : ((joinV L.jts (nextE t)).side != s.in_) = true := by simpa using hj2
                    clear jb hj1 hj2
                    go_wp2_with (go_at_call 103; refine (to_after (pass_any L t (w.heap.size + 1) _ (HL.out.keep E3.out) L2.out)).mono ?_; rw [JB.out]; rintro e w' ⟨z, rfl, rfl⟩; have e5 := lt_keep e2 (After.is z))
                    go_ret
                    exact ⟨ret_bool HV.out.symm, eal (etr E3.out (After.is _)) _⟩
                · have HV : Hid (wayB L.els L.jts way = false) := way_no HS.out fun _ _ h => hj1 (h t hk0n HTK.out).2.1
                  have q1 : ((joinV L.jts (nextE t)).el != s.el) = true := by simpa using hj1
                  clear jb hj1
                  go_wp2_with (go_at_call 103; refine (to_after (pass_any L t (w.heap.size + 1) _ (HL.out.keep E3.out) L2.out)).mono ?_; rw [JB.out]; rintro e w' ⟨z, rfl, rfl⟩; have e5 := lt_keep e2 (After.is z))
                  go_ret
                  exact ⟨ret_bool HV.out.symm, eal (etr E3.out (After.is _)) _⟩
    · have e : k = way.length := by omega
      subst e
      have HV : Hid (wayB L.els L.jts way = true) := wayB_true.2 ⟨by have := HK0.out; omega, by have := HK1.out; omega, H.out.2.2.2⟩
      go_wp2
      go_ret
      exact ⟨ret_bool HV.out.symm, H.out.1⟩
end Go.Proofs.YticonpjkcocgeaaDoor

set_option linter.unusedVariables false
set_option linter.unusedSimpArgs false
set_option maxRecDepth 100000
namespace Go.Proofs.YticonpjkcocgeaaDoor
open Go.ChangeShapes Go.WideShapes Go.ChangeAt Go.RowKit
open Sg

theorem set2 {w : World} {b : Nat} {us : List Value} (v0 v1 : Value) (h : Own w b us) (h2 : us.length = 2) : ∃ w', w' = ((w.setCell ⟨b, 0, none⟩ v0).setCell ⟨b, 1, none⟩ v1) ∧ Own w' b [v0, v1] ∧ Only b w w' := by
  refine ⟨_, rfl, ?_, (Only.set _ _ _ _).trans (Only.set _ _ _ _)⟩
  match us, h2 with
  | [u0, u1], _ => exact (h.set 0 (by simp) v0).set 1 (by simp) v1
theorem rd_st_at {w wr : World} {b off k : Nat} {p : List Stp} {s : Stp} (h : Rd w (some ⟨b, off, none⟩) 3 Stc p) (hb : Ext w wr) (hs : p[k]? = some s) : b < wr.heap.size ∧ wr.cell? ⟨b, off + k * 3, none⟩ = some (.int .i64 s.el) ∧ wr.cell? ⟨b, off + k * 3 + 1, none⟩ = some (.int .i64 s.in_) ∧ wr.cell? ⟨b, off + k * 3 + 1 + 1, none⟩ = some (.int .i64 s.out_) := by
  obtain ⟨b', off', s', e, hs', h0, h1, h2, h3⟩ := rd_st h hb (List.getElem?_eq_some_iff.1 hs).1
  cases e
  rw [hs] at hs'
  cases hs'
  exact ⟨h0, h1, h2, h3⟩
set_option maxHeartbeats 16000000 in
theorem rvalid_way (L : Lay) (A : Option Addr) (way : List Stp) (c : Nat) (w : World) (hL : LayOk w L) (hm : way.length ≤ maxLen) (hr : Rd w A 3 Stc way) : Calls Tryd.prog 67 #[.agg #[.string L.name, .slice L.aS L.secs.length L.cS, .slice L.aE L.els.length L.cE, .slice L.aJ L.jts.length L.cJ, .slice L.aG L.sgs.length L.cG, .slice L.aB L.bals.length L.cB], .slice A way.length c] w fun e w' => e = .returned (.bool (wayB L.els L.jts way)) ∧ Below w.heap.size w w' := by
  unfold maxLen at hm
  have HL := Lib.hid hL
  have HR := Lib.hid hr
  clear hL hr
  by_cases k0 : way.length = 0
  · have HV : Hid (wayB L.els L.jts way = false) := wayB_false.2 (fun h => by have := h.1; omega)
    go_enter Tryd.func67, Tryd.ntmps67
    go_wp2
    go_ret
    exact ⟨ret_bool HV.out.symm, eal (Ext.refl _) _⟩
  by_cases k1 : 64 < way.length
  · have HV : Hid (wayB L.els L.jts way = false) := wayB_false.2 (fun h => by have := h.2.1; omega)
    go_enter Tryd.func67, Tryd.ntmps67
    go_wp2
    go_ret
    exact ⟨ret_bool HV.out.symm, eal (Ext.refl _) _⟩
  have HK0 := Lib.hid k0
  have HK1 := Lib.hid k1
  have q0 : ((way.length : Int) == 0) = false := by simpa using k0
  have q64 : decide ((64 : Int) < (way.length : Int)) = false := decide_eq_false (by omega)
  go_enter Tryd.func67, Tryd.ntmps67
  go_wp2
  clear k0 k1
  go_loopg [5] way.length (fun g ix wr => ∃ k : Nat, ix = .int .i64 k ∧ k ≤ way.length ∧ g = way.length - k ∧ Hid (Ext w wr ∧ LayAt wr w.heap.size L ∧ WayTo L.els L.jts way k))
  case atStart =>
    exact ⟨0, rfl, by omega, by omega, eal (Ext.refl _) _, CellsAt.new rfl, fun i s hi => absurd hi (by omega)⟩
  case round =>
    obtain ⟨k, rfl, hk, hg, H⟩ := hrel
    have HG := Lib.hid hg
    clear hg
    by_cases hlt : k < way.length
    · obtain ⟨b, off, s, rfl, hs, hbs, c0, c1, c2⟩ := rd_st HR.out H.out.1 hlt
      have HS := Lib.hid hs
      clear hs
      obtain ⟨l0, a0, a1, a2, a3, a4, a5⟩ := layAt_cells H.out.2.1
      cases hp : possB L.els s
      · have HV : Hid (wayB L.els L.jts way = false) := way_no HS.out fun h _ _ => by rw [possB_true.2 h] at hp; cases hp
        have HP := Lib.hid hp
        clear hp
        go_wp2
        refine wp_region_after (by kernel_rfl) (by kernel_rfl) ?_
        repeat (first | go_big_quiet_step ((go_at_call 95; exact after_call _ (HP.out ▸ rposs_any L s _ (HL.out.keep (etr H.out.1 (After.is _)))))))
        refine wpQuiet_nil ?_
        rintro _ ⟨y, rfl⟩
        go_wp2
        go_ret
        exact ⟨ret_bool HV.out.symm, etr H.out.1 y.is⟩
      · have HO : Hid (StepOk L.els s) := possB_true.1 hp
        have HP := Lib.hid hp
        clear hp
        go_wp2
        refine wp_region_after (by kernel_rfl) (by kernel_rfl) ?_
        repeat (first | go_big_quiet_step ((go_at_call 95; exact after_call _ (HP.out ▸ rposs_any L s _ (HL.out.keep (etr H.out.1 (After.is _)))))))
        refine wpQuiet_nil ?_
        rintro _ ⟨y, rfl⟩
        have E2 : Hid (Ext w y.val) := etr H.out.1 y.is
        have L0 : Hid (LayAt y.val w.heap.size L) := H.out.2.1.keep y.is
        clear a0 a1 a2 a3 a4 a5 c0 c1 c2 l0 hbs
        by_cases hk0 : k = 0
        · have HP3 : Hid (∀ t, 0 < k → way[k - 1]? = some t → PairOk L.jts t s) := fun t h => absurd h (by omega)
          obtain ⟨y2, hy2⟩ : ∃ y2 : After wr, y2 = y := ⟨_, rfl⟩
          rw [← hy2]
          have E6 : Hid (Ext w y2.val) := hy2 ▸ E2
          have L6 : Hid (LayAt y2.val w.heap.size L) := hy2 ▸ L0
          clear hy2
          have hk0' : decide ((0 : Int) < k) = false := by simp; omega
          have hk0n : decide (0 < k) = false := by simp; omega
          go_wp2
          go_loopg [10] k (fun g ix wr2 => ∃ j : Nat, ix = .int .i64 j ∧ j ≤ k ∧ g = k - j ∧ Hid (Ext y2.val wr2 ∧ ∀ (i : Nat) t, i < j → way[i]? = some t → t.el ≠ s.el))
          case atStart => exact ⟨0, rfl, by omega, by omega, Ext.refl _, fun i t h => absurd h (by omega)⟩
          case round =>
            obtain ⟨j, rfl, hj, hg2, H2⟩ := hrel
            have HG2 := Lib.hid hg2
            clear hg2
            have E7 : Hid (Ext w wr) := etr E6.out H2.out.1
            by_cases hlt2 : j < k
            · exact absurd hlt2 (by omega)
            · have HN : Hid (∀ (i : Nat) t, i < k → way[i]? = some t → t.el ≠ s.el) := fun i v hi hv => H2.out.2 i v (by omega) hv
              have HW : Hid (WayTo L.els L.jts way (k + 1)) := wayTo_succ H.out.2.2 HS.out HO.out HN.out HP3.out
              go_wp2
              go_roundg (way.length - (k + 1))
              case measure => have := HG.out; omega
              case rel => exact ⟨k + 1, by go_num, by omega, rfl, E7.out, L6.out.keep H2.out.1, HW.out⟩
        · obtain ⟨t, ht⟩ : ∃ t, way[k - 1]? = some t := ⟨_, List.getElem?_eq_getElem (by omega)⟩
          obtain ⟨hb2, d0, d1, d2⟩ := rd_st_at HR.out E2.out ht
          have HTK := Lib.hid ht
          clear ht
          have hk0n : 0 < k := by omega
          have hkp : (0 : Int) < k := by omega
          have n1 : IntKind.i64.wrap ((k : Int) - 1) = (k : Int) - 1 := IntWalk.i64_in _ (by omega)
          have n2 : ((k : Int) - 1).toNat = k - 1 := by omega
          have n3 : (0 : Int) ≤ (k : Int) - 1 := by omega
          have n4 : (k : Int) - 1 < (way.length : Int) := by omega
          have n5 : (1 : Int) ≤ (k : Int) := by omega
          have n6 : 1 ≤ k := by omega
          have n7 : k - 1 < way.length := by omega
          obtain ⟨l0, a0, a1, a2, a3, a4, a5⟩ := layAt_cells L0.out
          go_wp2
          refine wp_region_monoB [0, 1, 2, 3, 4, 5, 6, 7, 8, 9] 3 (by kernel_rfl) (by kernel_rfl) (fun _ _ d _ _ h => by cases d <;> exact h) (by kernel_rfl) (by kernel_rfl) ?_
          repeat (refine wpE_step rfl (fun K hK => ?_); go_simp; (first
            | (refine hK _ ?_; clear hK K)
            | (apply Exists.intro
               refine ⟨fun x => ?_, hK _ ?_⟩
               (go_at_call 96; exact rnext_any L t _ (HL.out.keep (etr E2.out x.is)))
               clear hK K)))
          refine wpE_nil ?_
          intro x
          refine wpAnyB_ready (rs := [10]) (by kernel_rfl) (by simp) (AllB.cons rfl (fun K hK => ?_) AllB.nil)
          go_simp
          refine hK _ _ (ext_below (eal (Ext.refl _) _) (esz x.is)) (fun z => ?_)
          clear hK K
          have hz : x.val.heap.size < z.val.heap.size := by have := z.is.size; simp at this; omega
          refine wpAnyB_ready (rs := [11]) (by kernel_rfl) (by simp) (AllB.cons rfl (fun K hK => ?_) AllB.nil)
          go_simp
          obtain ⟨w4, hw4, HO4, HN4⟩ := set2 (.int .i64 (joinV L.jts (nextE t)).el) (.int .i64 (joinV L.jts (nextE t)).side) ((Own.new (w := x.val) (cs := #[.int .i64 0, .int .i64 0]) (t := 110) rfl).keep z.is) rfl
          rw [← hw4]
          refine hK _ _ (Below.only (Below.refl _ _) HN4 (esz x.is)) (fun z2 => ?_)
          clear hK K
          refine wpAnyB_ready (rs := [12]) (by kernel_rfl) (by simp) (AllB.cons rfl (fun K hK => ?_) AllB.nil)
          go_simp
          refine hK _ _ (Below.refl _ _) (fun z3 => ?_)
          clear hK K
          refine wpAnyB_done (by kernel_rfl) ?_ _
          clear a0 a1 a2 a3 a4 a5 d0 d1 d2 l0 hb2 n1 n2 n3 n4 n5 n6 n7
          have HO5 := (HO4.keep z2.is).keep z3.is
          obtain ⟨w5, hw5⟩ : ∃ w5, w5 = z3.val := ⟨_, rfl⟩
          have E5 : Hid (Ext w w5) := hw5 ▸ etr (etr (eonly (etr (eal (etr E2.out x.is) _) z.is) HN4 (esz (etr E2.out x.is))) z2.is) z3.is
          have L5 : Hid (LayAt w5 w.heap.size L) := hw5 ▸ L0.out.keep (etr (etr (eonly (etr (eal x.is _) z.is) HN4 (esz x.is)) z2.is) z3.is)
          rw [← hw5] at HO5 ⊢
          obtain ⟨hb5, c0, c1, c2⟩ := rd_st_at HR.out E5.out HS.out
          have e0 := HO5.2.1 0 _ rfl
          have e1 := HO5.2.1 1 _ rfl
          have e2 := HO5.1
          clear hw5 hw4 HO5 HN4 HO4 hz
          go_wp2
          cases jb : joinB L.jts (nextE t)
          · have HV : Hid (wayB L.els L.jts way = false) := way_no HS.out fun _ _ h => by have := (h t hk0n HTK.out).1; rw [show (⟨t.el, t.out_⟩ : Sg.End) = nextE t from rfl, jb] at this; cases this
            clear jb
            refine wp_region_after (by kernel_rfl) (by kernel_rfl) ?_
            repeat (first | go_big_quiet_step (fail))
            refine wpQuiet_nil ?_
            rintro _ ⟨y2, rfl⟩
            go_wp2
            go_ret
            exact ⟨ret_bool HV.out.symm, etr E5.out y2.is⟩
          by_cases hj1 : (joinV L.jts (nextE t)).el = s.el
          · have q1 : ((joinV L.jts (nextE t)).el != s.el) = false := by simp [hj1]
            by_cases hj2 : (joinV L.jts (nextE t)).side = s.in_
            · have q2 : ((joinV L.jts (nextE t)).side != s.in_) = false := by simp [hj2]
              have HP3 : Hid (∀ u, 0 < k → way[k - 1]? = some u → PairOk L.jts u s) := fun u _ hu => by rw [HTK.out] at hu; cases hu; exact ⟨jb, hj1, hj2⟩
              clear hj1 hj2 jb
              refine wp_region_after (by kernel_rfl) (by kernel_rfl) ?_
              repeat (first | go_big_quiet_step (fail))
              refine wpQuiet_nil ?_
              rintro _ ⟨y2, rfl⟩
              have E6 : Hid (Ext w y2.val) := etr E5.out y2.is
              have L6 : Hid (LayAt y2.val w.heap.size L) := L5.out.keep y2.is
              clear e0 e1 e2 c0 c1 c2 q1 q2 hb5
              go_wp2
              go_loopg [10] k (fun g ix wr2 => ∃ j : Nat, ix = .int .i64 j ∧ j ≤ k ∧ g = k - j ∧ Hid (Ext y2.val wr2 ∧ ∀ (i : Nat) t, i < j → way[i]? = some t → t.el ≠ s.el))
              case atStart => exact ⟨0, rfl, by omega, by omega, Ext.refl _, fun i t h => absurd h (by omega)⟩
              case round =>
                obtain ⟨j, rfl, hj, hg2, H2⟩ := hrel
                have HG2 := Lib.hid hg2
                clear hg2
                have E7 : Hid (Ext w wr) := etr E6.out H2.out.1
                by_cases hlt2 : j < k
                · obtain ⟨u, hu⟩ : ∃ u, way[j]? = some u := ⟨_, List.getElem?_eq_getElem (by omega)⟩
                  obtain ⟨hb6, f0, f1, f2⟩ := rd_st_at HR.out E7.out HS.out
                  obtain ⟨_, g0, g1, g2⟩ := rd_st_at HR.out E7.out hu
                  have HU := Lib.hid hu
                  clear hu
                  by_cases he : u.el = s.el
                  · have HV : Hid (wayB L.els L.jts way = false) := way_no HS.out fun _ h _ => h j u hlt2 HU.out he
                    have q : (u.el == s.el) = true := by simp [he]
                    clear he
                    go_wp2
                    refine wp_region_after (by kernel_rfl) (by kernel_rfl) ?_
                    repeat (first | go_big_quiet_step (fail))
                    refine wpQuiet_nil ?_
                    rintro _ ⟨y3, rfl⟩
                    go_wp2
                    go_ret
                    exact ⟨ret_bool HV.out.symm, etr E7.out y3.is⟩
                  · have HN : Hid (∀ (i : Nat) t, i < j + 1 → way[i]? = some t → t.el ≠ s.el) := fun i v hi hv => by
                      by_cases e : i = j
                      · subst e; rw [HU.out] at hv; cases hv; exact he
                      · exact H2.out.2 i v (by omega) hv
                    have q : (u.el == s.el) = false := by simpa using he
                    clear he
                    go_wp2
                    refine wp_region_after (by kernel_rfl) (by kernel_rfl) ?_
                    repeat (first | go_big_quiet_step (fail))
                    refine wpQuiet_nil ?_
                    rintro _ ⟨y3, rfl⟩
                    go_wp2
                    go_roundg (k - (j + 1))
                    case measure => have := HG2.out; omega
                    case rel => exact ⟨j + 1, by go_num, by omega, rfl, etr H2.out.1 y3.is, HN.out⟩
                · have HN : Hid (∀ (i : Nat) t, i < k → way[i]? = some t → t.el ≠ s.el) := fun i v hi hv => H2.out.2 i v (by omega) hv
                  have HW : Hid (WayTo L.els L.jts way (k + 1)) := wayTo_succ H.out.2.2 HS.out HO.out HN.out HP3.out
                  go_wp2
                  go_roundg (way.length - (k + 1))
                  case measure => have := HG.out; omega
                  case rel => exact ⟨k + 1, by go_num, by omega, rfl, E7.out, L6.out.keep H2.out.1, HW.out⟩
            · have HV : Hid (wayB L.els L.jts way = false) := way_no HS.out fun _ _ h => hj2 (h t hk0n HTK.out).2.2
              have q2 : ((joinV L.jts (nextE t)).side != s.in_) = true := by simpa using hj2
              clear jb hj1 hj2
              refine wp_region_after (by kernel_rfl) (by kernel_rfl) ?_
              repeat (first | go_big_quiet_step (fail))
              refine wpQuiet_nil ?_
              rintro _ ⟨y2, rfl⟩
              go_wp2
              go_ret
              exact ⟨ret_bool HV.out.symm, etr E5.out y2.is⟩
          · have HV : Hid (wayB L.els L.jts way = false) := way_no HS.out fun _ _ h => hj1 (h t hk0n HTK.out).2.1
            have q1 : ((joinV L.jts (nextE t)).el != s.el) = true := by simpa using hj1
            clear jb hj1
            refine wp_region_after (by kernel_rfl) (by kernel_rfl) ?_
            repeat (first | go_big_quiet_step (fail))
            refine wpQuiet_nil ?_
            rintro _ ⟨y2, rfl⟩
            go_wp2
            go_ret
            exact ⟨ret_bool HV.out.symm, etr E5.out y2.is⟩
    · have e : k = way.length := by omega
      subst e
      have HV : Hid (wayB L.els L.jts way = true) := wayB_true.2 ⟨by have := HK0.out; omega, by have := HK1.out; omega, H.out.2.2⟩
      go_wp2
      go_ret
      exact ⟨ret_bool HV.out.symm, H.out.1⟩
end Go.Proofs.YticonpjkcocgeaaDoor
