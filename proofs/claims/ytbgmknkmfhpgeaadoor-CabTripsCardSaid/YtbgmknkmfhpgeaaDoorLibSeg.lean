/- Contracts of slices.Grow, slices.Concat and slices.Clone at one element type. -/
import Derived.Test.YtbgmknkmfhpgeaaDoorWProfs
import Derived.Test.YtbgmknkmfhpgeaaDoorExt
import Derived.Deep.LoopGhost
import Derived.Lib.AppendZeros
import Derived.WalkSpells
set_option linter.unusedVariables false
set_option maxRecDepth 100000
set_option linter.unusedSimpArgs false
namespace Go.Proofs.YtbgmknkmfhpgeaaDoor
open Go.ChangeShapes Go.WideShapes Go.ChangeAt Go.RowKit
open Sg

theorem inf_Seg : (Tryd.prog.info? 77).map (fun i => (i.zero, i.size, i.bytes)) = some (some (.agg #[.int .i64 0, .int .i64 0, .int .i64 0, .int .i64 0]), 4, 32) := by kernel_rfl

structure SrcSeg where
  A : Option Addr
  xs : List Sgm
  c : Nat
def SrcSeg.val (s : SrcSeg) : Value := .slice s.A s.xs.length s.c
def SrcSeg.all (L : List SrcSeg) : List Sgm := L.flatMap SrcSeg.xs
theorem SrcSeg.all_take {L : List SrcSeg} {k : Nat} {s : SrcSeg} (h : L[k]? = some s) : SrcSeg.all (L.take (k + 1)) = SrcSeg.all (L.take k) ++ s.xs := by
  obtain ⟨hl, rfl⟩ := List.getElem?_eq_some_iff.1 h
  unfold SrcSeg.all
  rw [List.take_succ_eq_append_getElem hl, List.flatMap_append]
  simp
theorem SrcSeg.all_le (L : List SrcSeg) (k : Nat) : (SrcSeg.all (L.take k)).length ≤ (SrcSeg.all L).length := by
  have e : SrcSeg.all L = SrcSeg.all (L.take k) ++ SrcSeg.all (L.drop k) := by unfold SrcSeg.all; rw [← List.flatMap_append, List.take_append_drop]
  rw [e, List.length_append]; omega

end Go.Proofs.YtbgmknkmfhpgeaaDoor
