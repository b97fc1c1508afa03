/- Contract of slices.Clone at segments. -/
import Derived.Test.YtbgmknkmfhpgeaaDoorLibSeg
set_option linter.unusedVariables false
set_option linter.unusedSimpArgs false
namespace Go.Proofs.YtbgmknkmfhpgeaaDoor
open Go.ChangeShapes Go.WideShapes Go.ChangeAt Go.RowKit
open Sg

/-- Clone: the same list, in a block of the call's own. -/
theorem clone_Seg (A : Option Addr) (xs : List Sgm) (c : Nat) (w : World) (hl : xs.length ≤ 1000000) (hr : Rd w A 4 Sgc xs) :
    Calls Tryd.prog 91 #[.slice A xs.length c] w fun e w' => ∃ v, e = .returned v ∧ OwnL w' w.heap.size 77 4 Sgc v xs ∧ Below w.heap.size w w' := by
  obtain ⟨i0, hi, hz0, hz1, hz2⟩ := info_parts inf_Seg
  have HR := Lib.hid hr
  clear hr
  cases A with
  | none =>
    obtain rfl : xs = [] := by
      cases xs with
      | nil => rfl
      | cons x r => obtain ⟨b, off, e, _⟩ := HR.out (by simp); cases e
    have he := fun n c n2 c2 => Lib.run_eql_slice_nil (P := Tryd.prog) w 26 77 none n c n2 c2 Tryd.underlying26
    go_enter Tryd.func91, Tryd.ntmps91
    go_wp2
    go_ret
    exact ⟨_, rfl, OwnL.nil, Below.refl _ _⟩
  | some ad =>
    have he := fun n c n2 c2 => Lib.run_eql_slice_nil (P := Tryd.prog) w 26 77 (some ad) n c n2 c2 Tryd.underlying26
    have HO : Hid (OwnL (w.alloc (.cells #[] 77)) w.heap.size 77 4 Sgc (.slice (some ⟨w.heap.size, 0, none⟩) 0 0) ([] : List Sgm)) := World.ownsRow_lit w #[] 0 (Nat.le_refl _) (by simp) (by simp)
    go_enter Tryd.func91, Tryd.ntmps91
    go_wp2_with (at_builtin
                 refine wp_appL (u := w) Sgc_len Sgc_one Tryd.underlying26 hi hz0 hz1 hz2 rfl (by decide) rfl rfl rfl HO.out (eal (Ext.refl w) _) xs (some ad) c (by simp [go_sem]) (HR.out.keep (eal (Ext.refl w) _)) (by simp; omega) (by simp; unfold maxLen; omega) ?_
                 intro v1 w1 H1
                 rw [List.nil_append] at H1)
    go_ret
    exact ⟨_, rfl, H1.out.1, H1.out.2.1⟩

end Go.Proofs.YtbgmknkmfhpgeaaDoor
