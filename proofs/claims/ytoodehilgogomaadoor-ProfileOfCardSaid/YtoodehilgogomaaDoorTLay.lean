/- Layouts, ways, restrictions: their cells. -/
import Derived.Test.YtoodehilgogomaaDoorExt
import Derived.Test.YtoodehilgogomaaDoorFlat
import Derived.Test.YtoodehilgogomaaDoorPLay
import Derived.Deep.LoopGhost
set_option linter.unusedVariables false
set_option maxRecDepth 100000
set_option linter.unusedSimpArgs false
namespace Go.Proofs.YtoodehilgogomaaDoor
open Go.ChangeShapes Go.WideShapes Go.ChangeAt Go.RowKit
open Sg

def Rsc (s : Rst) : List Value := [.int .i64 s.id, .int .i64 s.el, .int .i64 s.from_, .int .i64 s.to_, .int .i64 s.speed, .bool s.act]
theorem Rsc_len (s : Rst) : (Rsc s).length = 6 := rfl
theorem Rsc_one (s : Rst) : ∀ u ∈ Rsc s, u.oneCell' = true := by intro u hu; simp [Rsc] at hu; rcases hu with rfl | rfl | rfl | rfl | rfl | rfl <;> rfl
/-- The cells of the element k, in the walk's own spelling. -/
theorem rd_rs {w wr : World} {A : Option Addr} {p : List Rst} {k : Nat} (h : Rd w A 6 Rsc p) (hb : Ext w wr) (hk : k < p.length) :
    ∃ b off s, A = some ⟨b, off, none⟩ ∧ p[k]? = some s ∧ b < wr.heap.size ∧ wr.cell? ⟨b, off + k * 6, none⟩ = some (.int .i64 s.id) ∧ wr.cell? ⟨b, off + k * 6 + 1, none⟩ = some (.int .i64 s.el) ∧ wr.cell? ⟨b, off + k * 6 + 1 + 1, none⟩ = some (.int .i64 s.from_) ∧ wr.cell? ⟨b, off + k * 6 + 1 + 1 + 1, none⟩ = some (.int .i64 s.to_) ∧ wr.cell? ⟨b, off + k * 6 + 1 + 1 + 1 + 1, none⟩ = some (.int .i64 s.speed) ∧ wr.cell? ⟨b, off + k * 6 + 1 + 1 + 1 + 1 + 1, none⟩ = some (.bool s.act) := by
  obtain ⟨b, off, rfl, h1, h2⟩ := h.keep hb (by omega)
  obtain ⟨s, hs⟩ : ∃ s, p[k]? = some s := ⟨_, List.getElem?_eq_getElem hk⟩
  exact ⟨b, off, s, rfl, hs, h1, h2 k s hs 0 _ rfl, h2 k s hs 1 _ rfl, h2 k s hs 2 _ rfl, h2 k s hs 3 _ rfl, h2 k s hs 4 _ rfl, h2 k s hs 5 _ rfl⟩
def RstI (s : Rst) : Prop := I64 s.id ∧ I64 s.el ∧ I64 s.from_ ∧ I64 s.to_ ∧ I64 s.speed
section
variable {H : Type} {enc : TypeId × Value → H} {w : World} {base b0 : Nat} {spare : Nat → Bool} {held : Bool} {r : Reach} {v : Value} {d : DataW H} {ps : List MemPlace}
theorem leaves_rs {cs : List Value} (h : Leaves enc Tryd.prog w base spare held [3, 3, 3, 3, 3, 4] cs) : ∃ T : Rst, cs = Rsc T ∧ RstI T := by
  obtain ⟨c0, r0, rfl, l0, h⟩ := leaves_cons h
  obtain ⟨c1, r1, rfl, l1, h⟩ := leaves_cons h
  obtain ⟨c2, r2, rfl, l2, h⟩ := leaves_cons h
  obtain ⟨c3, r3, rfl, l3, h⟩ := leaves_cons h
  obtain ⟨c4, r4, rfl, l4, h⟩ := leaves_cons h
  obtain ⟨c5, r5, rfl, l5, h⟩ := leaves_cons h
  obtain rfl := leaves_nil h
  obtain ⟨v0, rfl, b0⟩ := leaf_i64 Tryd.underlying3 l0
  obtain ⟨v1, rfl, b1⟩ := leaf_i64 Tryd.underlying3 l1
  obtain ⟨v2, rfl, b2⟩ := leaf_i64 Tryd.underlying3 l2
  obtain ⟨v3, rfl, b3⟩ := leaf_i64 Tryd.underlying3 l3
  obtain ⟨v4, rfl, b4⟩ := leaf_i64 Tryd.underlying3 l4
  obtain ⟨v5, rfl⟩ := leaf_bool Tryd.underlying4 l5
  exact ⟨⟨v0, v1, v2, v3, v4, v5⟩, rfl, b0, b1, b2, b3, b4⟩
end
def Elc (s : Elm) : List Value := [.string s.name, .int .i64 s.kind, .int .i64 s.len, .int .i64 s.grade, .int .i64 s.speed, .int .i64 s.slow, .int .i64 s.sec]
theorem Elc_len (s : Elm) : (Elc s).length = 7 := rfl
theorem Elc_one (s : Elm) : ∀ u ∈ Elc s, u.oneCell' = true := by intro u hu; simp [Elc] at hu; rcases hu with rfl | rfl | rfl | rfl | rfl | rfl | rfl <;> rfl
/-- The cells of the element k, in the walk's own spelling. -/
theorem rd_el {w wr : World} {A : Option Addr} {p : List Elm} {k : Nat} (h : Rd w A 7 Elc p) (hb : Ext w wr) (hk : k < p.length) :
    ∃ b off s, A = some ⟨b, off, none⟩ ∧ p[k]? = some s ∧ b < wr.heap.size ∧ wr.cell? ⟨b, off + k * 7, none⟩ = some (.string s.name) ∧ wr.cell? ⟨b, off + k * 7 + 1, none⟩ = some (.int .i64 s.kind) ∧ wr.cell? ⟨b, off + k * 7 + 1 + 1, none⟩ = some (.int .i64 s.len) ∧ wr.cell? ⟨b, off + k * 7 + 1 + 1 + 1, none⟩ = some (.int .i64 s.grade) ∧ wr.cell? ⟨b, off + k * 7 + 1 + 1 + 1 + 1, none⟩ = some (.int .i64 s.speed) ∧ wr.cell? ⟨b, off + k * 7 + 1 + 1 + 1 + 1 + 1, none⟩ = some (.int .i64 s.slow) ∧ wr.cell? ⟨b, off + k * 7 + 1 + 1 + 1 + 1 + 1 + 1, none⟩ = some (.int .i64 s.sec) := by
  obtain ⟨b, off, rfl, h1, h2⟩ := h.keep hb (by omega)
  obtain ⟨s, hs⟩ : ∃ s, p[k]? = some s := ⟨_, List.getElem?_eq_getElem hk⟩
  exact ⟨b, off, s, rfl, hs, h1, h2 k s hs 0 _ rfl, h2 k s hs 1 _ rfl, h2 k s hs 2 _ rfl, h2 k s hs 3 _ rfl, h2 k s hs 4 _ rfl, h2 k s hs 5 _ rfl, h2 k s hs 6 _ rfl⟩
def ElmI (s : Elm) : Prop := s.name.size ≤ maxLen ∧ I64 s.kind ∧ I64 s.len ∧ I64 s.grade ∧ I64 s.speed ∧ I64 s.slow ∧ I64 s.sec
section
variable {H : Type} {enc : TypeId × Value → H} {w : World} {base b0 : Nat} {spare : Nat → Bool} {held : Bool} {r : Reach} {v : Value} {d : DataW H} {ps : List MemPlace}
theorem leaves_el {cs : List Value} (h : Leaves enc Tryd.prog w base spare held [9, 3, 3, 3, 3, 3, 3] cs) : ∃ T : Elm, cs = Elc T ∧ ElmI T := by
  obtain ⟨c0, r0, rfl, l0, h⟩ := leaves_cons h
  obtain ⟨c1, r1, rfl, l1, h⟩ := leaves_cons h
  obtain ⟨c2, r2, rfl, l2, h⟩ := leaves_cons h
  obtain ⟨c3, r3, rfl, l3, h⟩ := leaves_cons h
  obtain ⟨c4, r4, rfl, l4, h⟩ := leaves_cons h
  obtain ⟨c5, r5, rfl, l5, h⟩ := leaves_cons h
  obtain ⟨c6, r6, rfl, l6, h⟩ := leaves_cons h
  obtain rfl := leaves_nil h
  obtain ⟨v0, rfl, b0⟩ := leaf_str Tryd.underlying9 l0
  obtain ⟨v1, rfl, b1⟩ := leaf_i64 Tryd.underlying3 l1
  obtain ⟨v2, rfl, b2⟩ := leaf_i64 Tryd.underlying3 l2
  obtain ⟨v3, rfl, b3⟩ := leaf_i64 Tryd.underlying3 l3
  obtain ⟨v4, rfl, b4⟩ := leaf_i64 Tryd.underlying3 l4
  obtain ⟨v5, rfl, b5⟩ := leaf_i64 Tryd.underlying3 l5
  obtain ⟨v6, rfl, b6⟩ := leaf_i64 Tryd.underlying3 l6
  exact ⟨⟨v0, v1, v2, v3, v4, v5, v6⟩, rfl, b0, b1, b2, b3, b4, b5, b6⟩
theorem open_el (hv : Value.okWide Tryd.prog w r b0 49 v) (h : DataW.Trod enc Tryd.prog w base spare held 49 v d ps) : ∃ T : Elm, v = .agg #[.string T.name, .int .i64 T.kind, .int .i64 T.len, .int .i64 T.grade, .int .i64 T.speed, .int .i64 T.slow, .int .i64 T.sec] ∧ ElmI T := by
  obtain ⟨cs, rfl, hL⟩ := open_flat (n := 3) (l := [9, 3, 3, 3, 3, 3, 3]) Tryd.underlying49 (by kernel_rfl) hv h
  obtain ⟨T, rfl, hT⟩ := leaves_el hL
  exact ⟨T, rfl, hT⟩
theorem leaf_els {c : Value} (h : Leaf enc Tryd.prog w base spare held 23 c) : ∃ A xs cap, c = .slice A (List.length xs) cap ∧ Rd w A 7 Elc xs ∧ xs.length ≤ maxLen ∧ xs.length ≤ cap ∧ ∀ (i : Nat) (x : Elm), xs[i]? = some x → ElmI x :=
  leaf_slice (n := 3) (en := Elc) (Q := ElmI) Tryd.underlying23 (l := [9, 3, 3, 3, 3, 3, 3]) (by kernel_rfl) (by decide) (fun cs hl => leaves_el hl) h
theorem open_els (hv : Value.okWide Tryd.prog w r b0 23 v) (h : DataW.Trod enc Tryd.prog w base spare held 23 v d ps) : ∃ A xs cap, v = .slice A (List.length xs) cap ∧ Rd w A 7 Elc xs ∧ xs.length ≤ maxLen ∧ xs.length ≤ cap ∧ ∀ (i : Nat) (x : Elm), xs[i]? = some x → ElmI x :=
  leaf_els (open_leaf (n := 0) Tryd.underlying23 hv h)
end
def Jtc (s : Jnt) : List Value := [.int .i64 s.ae, .int .i64 s.as_, .int .i64 s.be, .int .i64 s.bs]
theorem Jtc_len (s : Jnt) : (Jtc s).length = 4 := rfl
theorem Jtc_one (s : Jnt) : ∀ u ∈ Jtc s, u.oneCell' = true := by intro u hu; simp [Jtc] at hu; rcases hu with rfl | rfl | rfl | rfl <;> rfl
/-- The cells of the element k, in the walk's own spelling. -/
theorem rd_jt {w wr : World} {A : Option Addr} {p : List Jnt} {k : Nat} (h : Rd w A 4 Jtc p) (hb : Ext w wr) (hk : k < p.length) :
    ∃ b off s, A = some ⟨b, off, none⟩ ∧ p[k]? = some s ∧ b < wr.heap.size ∧ wr.cell? ⟨b, off + k * 4, none⟩ = some (.int .i64 s.ae) ∧ wr.cell? ⟨b, off + k * 4 + 1, none⟩ = some (.int .i64 s.as_) ∧ wr.cell? ⟨b, off + k * 4 + 1 + 1, none⟩ = some (.int .i64 s.be) ∧ wr.cell? ⟨b, off + k * 4 + 1 + 1 + 1, none⟩ = some (.int .i64 s.bs) := by
  obtain ⟨b, off, rfl, h1, h2⟩ := h.keep hb (by omega)
  obtain ⟨s, hs⟩ : ∃ s, p[k]? = some s := ⟨_, List.getElem?_eq_getElem hk⟩
  exact ⟨b, off, s, rfl, hs, h1, h2 k s hs 0 _ rfl, h2 k s hs 1 _ rfl, h2 k s hs 2 _ rfl, h2 k s hs 3 _ rfl⟩
def JntI (s : Jnt) : Prop := I64 s.ae ∧ I64 s.as_ ∧ I64 s.be ∧ I64 s.bs
section
variable {H : Type} {enc : TypeId × Value → H} {w : World} {base b0 : Nat} {spare : Nat → Bool} {held : Bool} {r : Reach} {v : Value} {d : DataW H} {ps : List MemPlace}
theorem leaves_jt {cs : List Value} (h : Leaves enc Tryd.prog w base spare held [3, 3, 3, 3] cs) : ∃ T : Jnt, cs = Jtc T ∧ JntI T := by
  obtain ⟨c0, r0, rfl, l0, h⟩ := leaves_cons h
  obtain ⟨c1, r1, rfl, l1, h⟩ := leaves_cons h
  obtain ⟨c2, r2, rfl, l2, h⟩ := leaves_cons h
  obtain ⟨c3, r3, rfl, l3, h⟩ := leaves_cons h
  obtain rfl := leaves_nil h
  obtain ⟨v0, rfl, b0⟩ := leaf_i64 Tryd.underlying3 l0
  obtain ⟨v1, rfl, b1⟩ := leaf_i64 Tryd.underlying3 l1
  obtain ⟨v2, rfl, b2⟩ := leaf_i64 Tryd.underlying3 l2
  obtain ⟨v3, rfl, b3⟩ := leaf_i64 Tryd.underlying3 l3
  exact ⟨⟨v0, v1, v2, v3⟩, rfl, b0, b1, b2, b3⟩
theorem open_jt (hv : Value.okWide Tryd.prog w r b0 65 v) (h : DataW.Trod enc Tryd.prog w base spare held 65 v d ps) : ∃ T : Jnt, v = .agg #[.int .i64 T.ae, .int .i64 T.as_, .int .i64 T.be, .int .i64 T.bs] ∧ JntI T := by
  obtain ⟨cs, rfl, hL⟩ := open_flat (n := 3) (l := [3, 3, 3, 3]) Tryd.underlying65 (by kernel_rfl) hv h
  obtain ⟨T, rfl, hT⟩ := leaves_jt hL
  exact ⟨T, rfl, hT⟩
theorem leaf_jts {c : Value} (h : Leaf enc Tryd.prog w base spare held 24 c) : ∃ A xs cap, c = .slice A (List.length xs) cap ∧ Rd w A 4 Jtc xs ∧ xs.length ≤ maxLen ∧ xs.length ≤ cap ∧ ∀ (i : Nat) (x : Jnt), xs[i]? = some x → JntI x :=
  leaf_slice (n := 3) (en := Jtc) (Q := JntI) Tryd.underlying24 (l := [3, 3, 3, 3]) (by kernel_rfl) (by decide) (fun cs hl => leaves_jt hl) h
theorem open_jts (hv : Value.okWide Tryd.prog w r b0 24 v) (h : DataW.Trod enc Tryd.prog w base spare held 24 v d ps) : ∃ A xs cap, v = .slice A (List.length xs) cap ∧ Rd w A 4 Jtc xs ∧ xs.length ≤ maxLen ∧ xs.length ≤ cap ∧ ∀ (i : Nat) (x : Jnt), xs[i]? = some x → JntI x :=
  leaf_jts (open_leaf (n := 0) Tryd.underlying24 hv h)
end
def Sic (s : Sgl) : List Value := [.string s.name, .int .i64 s.el, .int .i64 s.side, .int .i64 s.ovl]
theorem Sic_len (s : Sgl) : (Sic s).length = 4 := rfl
theorem Sic_one (s : Sgl) : ∀ u ∈ Sic s, u.oneCell' = true := by intro u hu; simp [Sic] at hu; rcases hu with rfl | rfl | rfl | rfl <;> rfl
/-- The cells of the element k, in the walk's own spelling. -/
theorem rd_sg {w wr : World} {A : Option Addr} {p : List Sgl} {k : Nat} (h : Rd w A 4 Sic p) (hb : Ext w wr) (hk : k < p.length) :
    ∃ b off s, A = some ⟨b, off, none⟩ ∧ p[k]? = some s ∧ b < wr.heap.size ∧ wr.cell? ⟨b, off + k * 4, none⟩ = some (.string s.name) ∧ wr.cell? ⟨b, off + k * 4 + 1, none⟩ = some (.int .i64 s.el) ∧ wr.cell? ⟨b, off + k * 4 + 1 + 1, none⟩ = some (.int .i64 s.side) ∧ wr.cell? ⟨b, off + k * 4 + 1 + 1 + 1, none⟩ = some (.int .i64 s.ovl) := by
  obtain ⟨b, off, rfl, h1, h2⟩ := h.keep hb (by omega)
  obtain ⟨s, hs⟩ : ∃ s, p[k]? = some s := ⟨_, List.getElem?_eq_getElem hk⟩
  exact ⟨b, off, s, rfl, hs, h1, h2 k s hs 0 _ rfl, h2 k s hs 1 _ rfl, h2 k s hs 2 _ rfl, h2 k s hs 3 _ rfl⟩
def SglI (s : Sgl) : Prop := s.name.size ≤ maxLen ∧ I64 s.el ∧ I64 s.side ∧ I64 s.ovl
section
variable {H : Type} {enc : TypeId × Value → H} {w : World} {base b0 : Nat} {spare : Nat → Bool} {held : Bool} {r : Reach} {v : Value} {d : DataW H} {ps : List MemPlace}
theorem leaves_sg {cs : List Value} (h : Leaves enc Tryd.prog w base spare held [9, 3, 3, 3] cs) : ∃ T : Sgl, cs = Sic T ∧ SglI T := by
  obtain ⟨c0, r0, rfl, l0, h⟩ := leaves_cons h
  obtain ⟨c1, r1, rfl, l1, h⟩ := leaves_cons h
  obtain ⟨c2, r2, rfl, l2, h⟩ := leaves_cons h
  obtain ⟨c3, r3, rfl, l3, h⟩ := leaves_cons h
  obtain rfl := leaves_nil h
  obtain ⟨v0, rfl, b0⟩ := leaf_str Tryd.underlying9 l0
  obtain ⟨v1, rfl, b1⟩ := leaf_i64 Tryd.underlying3 l1
  obtain ⟨v2, rfl, b2⟩ := leaf_i64 Tryd.underlying3 l2
  obtain ⟨v3, rfl, b3⟩ := leaf_i64 Tryd.underlying3 l3
  exact ⟨⟨v0, v1, v2, v3⟩, rfl, b0, b1, b2, b3⟩
theorem open_sg (hv : Value.okWide Tryd.prog w r b0 69 v) (h : DataW.Trod enc Tryd.prog w base spare held 69 v d ps) : ∃ T : Sgl, v = .agg #[.string T.name, .int .i64 T.el, .int .i64 T.side, .int .i64 T.ovl] ∧ SglI T := by
  obtain ⟨cs, rfl, hL⟩ := open_flat (n := 3) (l := [9, 3, 3, 3]) Tryd.underlying69 (by kernel_rfl) hv h
  obtain ⟨T, rfl, hT⟩ := leaves_sg hL
  exact ⟨T, rfl, hT⟩
theorem leaf_sgs {c : Value} (h : Leaf enc Tryd.prog w base spare held 25 c) : ∃ A xs cap, c = .slice A (List.length xs) cap ∧ Rd w A 4 Sic xs ∧ xs.length ≤ maxLen ∧ xs.length ≤ cap ∧ ∀ (i : Nat) (x : Sgl), xs[i]? = some x → SglI x :=
  leaf_slice (n := 3) (en := Sic) (Q := SglI) Tryd.underlying25 (l := [9, 3, 3, 3]) (by kernel_rfl) (by decide) (fun cs hl => leaves_sg hl) h
theorem open_sgs (hv : Value.okWide Tryd.prog w r b0 25 v) (h : DataW.Trod enc Tryd.prog w base spare held 25 v d ps) : ∃ A xs cap, v = .slice A (List.length xs) cap ∧ Rd w A 4 Sic xs ∧ xs.length ≤ maxLen ∧ xs.length ≤ cap ∧ ∀ (i : Nat) (x : Sgl), xs[i]? = some x → SglI x :=
  leaf_sgs (open_leaf (n := 0) Tryd.underlying25 hv h)
end
def Bac (s : Bls) : List Value := [.int .i64 s.id, .int .i64 s.el, .int .i64 s.off]
theorem Bac_len (s : Bls) : (Bac s).length = 3 := rfl
theorem Bac_one (s : Bls) : ∀ u ∈ Bac s, u.oneCell' = true := by intro u hu; simp [Bac] at hu; rcases hu with rfl | rfl | rfl <;> rfl
/-- The cells of the element k, in the walk's own spelling. -/
theorem rd_ba {w wr : World} {A : Option Addr} {p : List Bls} {k : Nat} (h : Rd w A 3 Bac p) (hb : Ext w wr) (hk : k < p.length) :
    ∃ b off s, A = some ⟨b, off, none⟩ ∧ p[k]? = some s ∧ b < wr.heap.size ∧ wr.cell? ⟨b, off + k * 3, none⟩ = some (.int .i64 s.id) ∧ wr.cell? ⟨b, off + k * 3 + 1, none⟩ = some (.int .i64 s.el) ∧ wr.cell? ⟨b, off + k * 3 + 1 + 1, none⟩ = some (.int .i64 s.off) := by
  obtain ⟨b, off, rfl, h1, h2⟩ := h.keep hb (by omega)
  obtain ⟨s, hs⟩ : ∃ s, p[k]? = some s := ⟨_, List.getElem?_eq_getElem hk⟩
  exact ⟨b, off, s, rfl, hs, h1, h2 k s hs 0 _ rfl, h2 k s hs 1 _ rfl, h2 k s hs 2 _ rfl⟩
def BlsI (s : Bls) : Prop := I64 s.id ∧ I64 s.el ∧ I64 s.off
section
variable {H : Type} {enc : TypeId × Value → H} {w : World} {base b0 : Nat} {spare : Nat → Bool} {held : Bool} {r : Reach} {v : Value} {d : DataW H} {ps : List MemPlace}
theorem leaves_ba {cs : List Value} (h : Leaves enc Tryd.prog w base spare held [3, 3, 3] cs) : ∃ T : Bls, cs = Bac T ∧ BlsI T := by
  obtain ⟨c0, r0, rfl, l0, h⟩ := leaves_cons h
  obtain ⟨c1, r1, rfl, l1, h⟩ := leaves_cons h
  obtain ⟨c2, r2, rfl, l2, h⟩ := leaves_cons h
  obtain rfl := leaves_nil h
  obtain ⟨v0, rfl, b0⟩ := leaf_i64 Tryd.underlying3 l0
  obtain ⟨v1, rfl, b1⟩ := leaf_i64 Tryd.underlying3 l1
  obtain ⟨v2, rfl, b2⟩ := leaf_i64 Tryd.underlying3 l2
  exact ⟨⟨v0, v1, v2⟩, rfl, b0, b1, b2⟩
theorem open_ba (hv : Value.okWide Tryd.prog w r b0 73 v) (h : DataW.Trod enc Tryd.prog w base spare held 73 v d ps) : ∃ T : Bls, v = .agg #[.int .i64 T.id, .int .i64 T.el, .int .i64 T.off] ∧ BlsI T := by
  obtain ⟨cs, rfl, hL⟩ := open_flat (n := 3) (l := [3, 3, 3]) Tryd.underlying73 (by kernel_rfl) hv h
  obtain ⟨T, rfl, hT⟩ := leaves_ba hL
  exact ⟨T, rfl, hT⟩
theorem leaf_bas {c : Value} (h : Leaf enc Tryd.prog w base spare held 26 c) : ∃ A xs cap, c = .slice A (List.length xs) cap ∧ Rd w A 3 Bac xs ∧ xs.length ≤ maxLen ∧ xs.length ≤ cap ∧ ∀ (i : Nat) (x : Bls), xs[i]? = some x → BlsI x :=
  leaf_slice (n := 3) (en := Bac) (Q := BlsI) Tryd.underlying26 (l := [3, 3, 3]) (by kernel_rfl) (by decide) (fun cs hl => leaves_ba hl) h
theorem open_bas (hv : Value.okWide Tryd.prog w r b0 26 v) (h : DataW.Trod enc Tryd.prog w base spare held 26 v d ps) : ∃ A xs cap, v = .slice A (List.length xs) cap ∧ Rd w A 3 Bac xs ∧ xs.length ≤ maxLen ∧ xs.length ≤ cap ∧ ∀ (i : Nat) (x : Bls), xs[i]? = some x → BlsI x :=
  leaf_bas (open_leaf (n := 0) Tryd.underlying26 hv h)
end
def Stc (s : Stp) : List Value := [.int .i64 s.el, .int .i64 s.in_, .int .i64 s.out_]
theorem Stc_len (s : Stp) : (Stc s).length = 3 := rfl
theorem Stc_one (s : Stp) : ∀ u ∈ Stc s, u.oneCell' = true := by intro u hu; simp [Stc] at hu; rcases hu with rfl | rfl | rfl <;> rfl
/-- The cells of the element k, in the walk's own spelling. -/
theorem rd_st {w wr : World} {A : Option Addr} {p : List Stp} {k : Nat} (h : Rd w A 3 Stc p) (hb : Ext w wr) (hk : k < p.length) :
    ∃ b off s, A = some ⟨b, off, none⟩ ∧ p[k]? = some s ∧ b < wr.heap.size ∧ wr.cell? ⟨b, off + k * 3, none⟩ = some (.int .i64 s.el) ∧ wr.cell? ⟨b, off + k * 3 + 1, none⟩ = some (.int .i64 s.in_) ∧ wr.cell? ⟨b, off + k * 3 + 1 + 1, none⟩ = some (.int .i64 s.out_) := by
  obtain ⟨b, off, rfl, h1, h2⟩ := h.keep hb (by omega)
  obtain ⟨s, hs⟩ : ∃ s, p[k]? = some s := ⟨_, List.getElem?_eq_getElem hk⟩
  exact ⟨b, off, s, rfl, hs, h1, h2 k s hs 0 _ rfl, h2 k s hs 1 _ rfl, h2 k s hs 2 _ rfl⟩
def StpI (s : Stp) : Prop := I64 s.el ∧ I64 s.in_ ∧ I64 s.out_
section
variable {H : Type} {enc : TypeId × Value → H} {w : World} {base b0 : Nat} {spare : Nat → Bool} {held : Bool} {r : Reach} {v : Value} {d : DataW H} {ps : List MemPlace}
theorem leaves_st {cs : List Value} (h : Leaves enc Tryd.prog w base spare held [3, 3, 3] cs) : ∃ T : Stp, cs = Stc T ∧ StpI T := by
  obtain ⟨c0, r0, rfl, l0, h⟩ := leaves_cons h
  obtain ⟨c1, r1, rfl, l1, h⟩ := leaves_cons h
  obtain ⟨c2, r2, rfl, l2, h⟩ := leaves_cons h
  obtain rfl := leaves_nil h
  obtain ⟨v0, rfl, b0⟩ := leaf_i64 Tryd.underlying3 l0
  obtain ⟨v1, rfl, b1⟩ := leaf_i64 Tryd.underlying3 l1
  obtain ⟨v2, rfl, b2⟩ := leaf_i64 Tryd.underlying3 l2
  exact ⟨⟨v0, v1, v2⟩, rfl, b0, b1, b2⟩
theorem open_st (hv : Value.okWide Tryd.prog w r b0 47 v) (h : DataW.Trod enc Tryd.prog w base spare held 47 v d ps) : ∃ T : Stp, v = .agg #[.int .i64 T.el, .int .i64 T.in_, .int .i64 T.out_] ∧ StpI T := by
  obtain ⟨cs, rfl, hL⟩ := open_flat (n := 3) (l := [3, 3, 3]) Tryd.underlying47 (by kernel_rfl) hv h
  obtain ⟨T, rfl, hT⟩ := leaves_st hL
  exact ⟨T, rfl, hT⟩
theorem leaf_sts {c : Value} (h : Leaf enc Tryd.prog w base spare held 29 c) : ∃ A xs cap, c = .slice A (List.length xs) cap ∧ Rd w A 3 Stc xs ∧ xs.length ≤ maxLen ∧ xs.length ≤ cap ∧ ∀ (i : Nat) (x : Stp), xs[i]? = some x → StpI x :=
  leaf_slice (n := 3) (en := Stc) (Q := StpI) Tryd.underlying29 (l := [3, 3, 3]) (by kernel_rfl) (by decide) (fun cs hl => leaves_st hl) h
theorem open_sts (hv : Value.okWide Tryd.prog w r b0 29 v) (h : DataW.Trod enc Tryd.prog w base spare held 29 v d ps) : ∃ A xs cap, v = .slice A (List.length xs) cap ∧ Rd w A 3 Stc xs ∧ xs.length ≤ maxLen ∧ xs.length ≤ cap ∧ ∀ (i : Nat) (x : Stp), xs[i]? = some x → StpI x :=
  leaf_sts (open_leaf (n := 0) Tryd.underlying29 hv h)
end
def Strc (s : ByteArray) : List Value := [.string s]
theorem Strc_len (s : ByteArray) : (Strc s).length = 1 := rfl
theorem Strc_one (s : ByteArray) : ∀ u ∈ Strc s, u.oneCell' = true := by intro u hu; simp [Strc] at hu; subst hu; rfl
theorem rd_tx {w wr : World} {A : Option Addr} {p : List ByteArray} {k : Nat} (h : Rd w A 1 Strc p) (hb : Ext w wr) (hk : k < p.length) :
    ∃ b off s, A = some ⟨b, off, none⟩ ∧ p[k]? = some s ∧ b < wr.heap.size ∧ wr.cell? ⟨b, off + k * 1, none⟩ = some (.string s) ∧ wr.cell? ⟨b, off + k, none⟩ = some (.string s) := by
  obtain ⟨b, off, rfl, h1, h2⟩ := h.keep hb (by omega)
  obtain ⟨s, hs⟩ : ∃ s, p[k]? = some s := ⟨_, List.getElem?_eq_getElem hk⟩
  have := h2 k s hs 0 _ rfl
  exact ⟨b, off, s, rfl, hs, h1, this, by simpa using this⟩
/-- A layout as a value: where its lists lie, and what they hold. -/
structure Lay where
  name : ByteArray
  aS : Option Addr
  secs : List ByteArray
  cS : Nat
  aE : Option Addr
  els : List Elm
  cE : Nat
  aJ : Option Addr
  jts : List Jnt
  cJ : Nat
  aG : Option Addr
  sgs : List Sgl
  cG : Nat
  aB : Option Addr
  bals : List Bls
  cB : Nat
structure LayOk (w : World) (L : Lay) : Prop where
  hN : L.name.size ≤ maxLen
  hS : Rd w L.aS 1 Strc L.secs
  hE : Rd w L.aE 7 Elc L.els
  hJ : Rd w L.aJ 4 Jtc L.jts
  hG : Rd w L.aG 4 Sic L.sgs
  hB : Rd w L.aB 3 Bac L.bals
  lS : L.secs.length ≤ maxLen
  lE : L.els.length ≤ maxLen
  lJ : L.jts.length ≤ maxLen
  lG : L.sgs.length ≤ maxLen
  lB : L.bals.length ≤ maxLen
  iS : ∀ (i : Nat) (x : ByteArray), L.secs[i]? = some x → x.size ≤ maxLen
  iE : ∀ (i : Nat) (x : Elm), L.els[i]? = some x → ElmI x
  iJ : ∀ (i : Nat) (x : Jnt), L.jts[i]? = some x → JntI x
  iG : ∀ (i : Nat) (x : Sgl), L.sgs[i]? = some x → SglI x
  iB : ∀ (i : Nat) (x : Bls), L.bals[i]? = some x → BlsI x
theorem LayOk.keep {w w' : World} {L : Lay} (h : LayOk w L) (hb : Ext w w') : LayOk w' L :=
  { h with hS := h.hS.keep hb, hE := h.hE.keep hb, hJ := h.hJ.keep hb, hG := h.hG.keep hb, hB := h.hB.keep hb }
section
variable {H : Type} {enc : TypeId × Value → H} {w : World} {base b0 : Nat} {spare : Nat → Bool} {held : Bool} {r : Reach} {v : Value} {d : DataW H} {ps : List MemPlace}
theorem leaf_txs {c : Value} (h : Leaf enc Tryd.prog w base spare held 22 c) : ∃ A xs cap, c = .slice A (List.length xs) cap ∧ Rd w A 1 Strc xs ∧ xs.length ≤ maxLen ∧ xs.length ≤ cap ∧ ∀ (i : Nat) (x : ByteArray), xs[i]? = some x → x.size ≤ maxLen :=
  leaf_slice (n := 3) (en := Strc) (Q := fun x => x.size ≤ maxLen) Tryd.underlying22 (l := [9]) (by kernel_rfl) (by decide) (fun cs hl => by
    obtain ⟨c0, r0, rfl, l0, hl⟩ := leaves_cons hl
    obtain rfl := leaves_nil hl
    obtain ⟨v0, rfl, b0⟩ := leaf_str Tryd.underlying9 l0
    exact ⟨v0, rfl, b0⟩) h
theorem open_lay (hv : Value.okWide Tryd.prog w r b0 28 v) (h : DataW.Trod enc Tryd.prog w base spare held 28 v d ps) : ∃ L : Lay, v = .agg #[.string L.name, .slice L.aS L.secs.length L.cS, .slice L.aE L.els.length L.cE, .slice L.aJ L.jts.length L.cJ, .slice L.aG L.sgs.length L.cG, .slice L.aB L.bals.length L.cB] ∧ LayOk w L := by
  obtain ⟨cs, rfl, hL⟩ := open_flat (n := 3) (l := [9, 22, 23, 24, 25, 26]) Tryd.underlying28 (by kernel_rfl) hv h
  obtain ⟨c0, r0, rfl, l0, hL⟩ := leaves_cons hL
  obtain ⟨c1, r1, rfl, l1, hL⟩ := leaves_cons hL
  obtain ⟨c2, r2, rfl, l2, hL⟩ := leaves_cons hL
  obtain ⟨c3, r3, rfl, l3, hL⟩ := leaves_cons hL
  obtain ⟨c4, r4, rfl, l4, hL⟩ := leaves_cons hL
  obtain ⟨c5, r5, rfl, l5, hL⟩ := leaves_cons hL
  obtain rfl := leaves_nil hL
  obtain ⟨v0, rfl, b0⟩ := leaf_str Tryd.underlying9 l0
  obtain ⟨A1, x1, n1, rfl, h1, g1, _, i1⟩ := leaf_txs l1
  obtain ⟨A2, x2, n2, rfl, h2, g2, _, i2⟩ := leaf_els l2
  obtain ⟨A3, x3, n3, rfl, h3, g3, _, i3⟩ := leaf_jts l3
  obtain ⟨A4, x4, n4, rfl, h4, g4, _, i4⟩ := leaf_sgs l4
  obtain ⟨A5, x5, n5, rfl, h5, g5, _, i5⟩ := leaf_bas l5
  exact ⟨⟨v0, A1, x1, n1, A2, x2, n2, A3, x3, n3, A4, x4, n4, A5, x5, n5⟩, rfl, ⟨b0, h1, h2, h3, h4, h5, g1, g2, g3, g4, g5, i1, i2, i3, i4, i5⟩⟩
end
end Go.Proofs.YtoodehilgogomaaDoor
