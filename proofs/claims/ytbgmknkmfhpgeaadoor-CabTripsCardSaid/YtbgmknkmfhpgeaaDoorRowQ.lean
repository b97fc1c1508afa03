/- Rows of many cells: a whole struct out of a block, within a region that draws its order. -/
import Derived.Test.YtbgmknkmfhpgeaaDoorRow
import Derived.Test.YtbgmknkmfhpgeaaDoorMonoB
import Derived.BigQuiet
set_option linter.unusedVariables false
set_option linter.unusedSimpArgs false
namespace Go.Proofs.YtbgmknkmfhpgeaaDoor
open Go.ChangeShapes Go.WideShapes Go.ChangeAt Go.RowKit

section
variable {P : Program} {ops : Array Oper} {rest : List Oper} {o : Oper} {a : Act} {R : Act → Prop} {w0 : World} {x : Operand} {b off : Nat} {us : List Value}
theorem wq_ldN (t : TypeId) (vs : List Value) {fs : Array Field} (ho : o.op = .load t x) (hw : Region.wanted o (yielded ops a.tmps) = true) (hx : a.eval x = .pointer (some ⟨b, off, none⟩)) (hc : CellsAt w0 b us) (hu : P.underlying t = some (.struct fs))
    (hn : (P.info? t).map (·.size) = some vs.length) (hv : (us.drop off).take vs.length = vs)
    (h : wpQuiet P ops (fun w' => ∃ x : After w0, w' = x.val) R rest (a.put o.dst (.agg vs.toArray))) : wpQuiet P ops (fun w' => ∃ x : After w0, w' = x.val) R (o :: rest) a := by
  refine BigFrame.wpQuiet_want hw fun K hK => ⟨.agg vs.toArray, fun w hC => ?_, hK _ h⟩
  obtain ⟨y, rfl⟩ := hC
  unfold Oper.quietAt execOp
  simp only [ho, hx, Sem.run_bind, Sem.run_pure, run_ldN hu hn (hc.keep y.is) hv]
  exact ⟨rfl, rfl⟩
theorem wE_ldN {i : Nat} {l : List Nat} (t : TypeId) (vs : List Value) {fs : Array Field} (hi : ops[i]? = some o) (ho : o.op = .load t x) (hw : Region.wanted o (yielded ops a.tmps) = true) (hx : a.eval x = .pointer (some ⟨b, off, none⟩)) (hc : CellsAt w0 b us) (hu : P.underlying t = some (.struct fs))
    (hn : (P.info? t).map (·.size) = some vs.length) (hv : (us.drop off).take vs.length = vs)
    (h : wpE P ops w0 R l (a.put o.dst (.agg vs.toArray))) : wpE P ops w0 R (i :: l) a := by
  refine wpE_step hi fun K hK => ?_
  rw [if_pos hw]
  refine ⟨.agg vs.toArray, fun y => ?_, hK _ h⟩
  unfold Oper.quietAt execOp
  simp only [ho, hx, Sem.run_bind, Sem.run_pure, run_ldN hu hn (hc.keep y.is) hv]
  exact ⟨rfl, rfl⟩
end
end Go.Proofs.YtbgmknkmfhpgeaaDoor
