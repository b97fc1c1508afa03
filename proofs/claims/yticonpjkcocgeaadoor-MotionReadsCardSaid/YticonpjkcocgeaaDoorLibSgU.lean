/- Contracts of slices.Grow, slices.Concat and slices.Clone at one element type. -/
import Derived.Test.YticonpjkcocgeaaDoorWProf
import Derived.Test.YticonpjkcocgeaaDoorKAll
import Derived.Deep.LoopGhost
import Derived.Lib.AppendZeros
import Derived.WalkSpells
set_option linter.unusedVariables false
set_option linter.unusedSimpArgs false
namespace Go.Proofs.YticonpjkcocgeaaDoor
open Go.ChangeShapes Go.WideShapes Go.ChangeAt Go.RowKit
open Sg

theorem inf_SegU : (Tryd.prog.info? 126).map (fun i => (i.zero, i.size, i.bytes)) = some (some (.agg #[.int .i64 0, .int .i64 0, .int .i64 0, .int .i64 0]), 4, 32) := by kernel_rfl

structure SrcSegU where
  A : Option Addr
  xs : List Sgm
  c : Nat
def SrcSegU.val (s : SrcSegU) : Value := .slice s.A s.xs.length s.c
def SrcSegU.all (L : List SrcSegU) : List Sgm := L.flatMap SrcSegU.xs
theorem SrcSegU.all_take {L : List SrcSegU} {k : Nat} {s : SrcSegU} (h : L[k]? = some s) : SrcSegU.all (L.take (k + 1)) = SrcSegU.all (L.take k) ++ s.xs := by
  obtain ⟨hl, rfl⟩ := List.getElem?_eq_some_iff.1 h
  unfold SrcSegU.all
  rw [List.take_succ_eq_append_getElem hl, List.flatMap_append]
  simp
theorem SrcSegU.all_le (L : List SrcSegU) (k : Nat) : (SrcSegU.all (L.take k)).length ≤ (SrcSegU.all L).length := by
  have e : SrcSegU.all L = SrcSegU.all (L.take k) ++ SrcSegU.all (L.drop k) := by unfold SrcSegU.all; rw [← List.flatMap_append, List.take_append_drop]
  rw [e, List.length_append]; omega

/-- Clone: the same list, in a block of the call's own. -/
theorem clone_SegU (A : Option Addr) (xs : List Sgm) (c : Nat) (w : World) (hl : xs.length ≤ 1000000) (hr : Rd w A 4 Sgc xs) :
    Calls Tryd.prog 72 #[.slice A xs.length c] w fun e w' => ∃ v, e = .returned v ∧ OwnL w' w.heap.size 126 4 Sgc v xs ∧ Below w.heap.size w w' := by
  obtain ⟨i0, hi, hz0, hz1, hz2⟩ := info_parts inf_SegU
  have HR := Lib.hid hr
  clear hr
  cases A with
  | none =>
    obtain rfl : xs = [] := by
      cases xs with
      | nil => rfl
      | cons x r => obtain ⟨b, off, e, _⟩ := HR.out (by simp); cases e
    have he := fun n c n2 c2 => Lib.run_eql_slice_nil (P := Tryd.prog) w 38 126 none n c n2 c2 Tryd.underlying38
    go_enter Tryd.func72, Tryd.ntmps72
    go_wp2
    go_ret
    exact ⟨_, rfl, OwnL.nil, Below.refl _ _⟩
  | some ad =>
    have he := fun n c n2 c2 => Lib.run_eql_slice_nil (P := Tryd.prog) w 38 126 (some ad) n c n2 c2 Tryd.underlying38
    have HO : Hid (OwnL (w.alloc (.cells #[] 126)) w.heap.size 126 4 Sgc (.slice (some ⟨w.heap.size, 0, none⟩) 0 0) ([] : List Sgm)) := World.ownsRow_lit w #[] 0 (Nat.le_refl _) (by simp) (by simp)
    go_enter Tryd.func72, Tryd.ntmps72
    go_wp2_with (at_builtin
                 refine wp_appL (u := w) Sgc_len Sgc_one Tryd.underlying38 hi hz0 hz1 hz2 rfl (by decide) rfl rfl rfl HO.out (eal (Ext.refl w) _) xs (some ad) c (by simp [go_sem]) (HR.out.keep (eal (Ext.refl w) _)) (by simp; omega) (by simp; unfold maxLen; omega) ?_
                 intro v1 w1 H1
                 rw [List.nil_append] at H1)
    go_ret
    exact ⟨_, rfl, H1.out.1, H1.out.2.1⟩

end Go.Proofs.YticonpjkcocgeaaDoor
