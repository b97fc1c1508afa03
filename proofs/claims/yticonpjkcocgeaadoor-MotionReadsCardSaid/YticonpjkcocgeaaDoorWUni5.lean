/- Walks: the examples' unit; the equality of readings. Printed by gen_uni5.py. -/
import Derived.Test.YticonpjkcocgeaaDoorWReaA
set_option linter.unusedVariables false
set_option linter.unusedSimpArgs false
set_option maxRecDepth 100000
namespace Go.Proofs.YticonpjkcocgeaaDoor
open Go.ChangeShapes Go.WideShapes Go.ChangeAt Go.RowKit
open Sg

def exS : List Stp := [⟨0, 0, 1⟩]
section
set_option maxHeartbeats 16000000
theorem unit_any (h v br : Int) (w : World) : Calls Tryd.prog 27 #[.int .i64 h, .int .i64 v, .int .i64 br] w fun e w' => ∃ b, e = .returned (.agg #[.slice (some ⟨b, 0, none⟩) 1 1, .int .i64 h, .int .i64 5000, .int .i64 v, .int .i64 0, .int .i64 0, .int .i64 1, .string ⟨#[110]⟩, .int .i64 5000, .int .i64 3000, .int .i64 100, .int .i64 50, .int .i64 100, .int .i64 1, .int .i64 0, .int .i64 0, .int .i64 0, .int .i64 br, .int .i64 0, .int .i64 0, .int .i64 0, .int .i64 0, .int .i64 0, .int .i64 0, .slice none 0 0, .slice none 0 0, .int .i64 0, .int .i64 0, .int .i64 0, .int .i64 0, .bool false, .int .i64 0]) ∧ Rd w' (some ⟨b, 0, none⟩) 3 Stc exS ∧ Below w.heap.size w w' := by
  obtain ⟨w1, hw⟩ : ∃ w1, w1 = w.alloc (.cells #[.slice none 0 0, .int .i64 0, .int .i64 0, .int .i64 0, .int .i64 0, .int .i64 0, .int .i64 0, .string ⟨#[]⟩, .int .i64 0, .int .i64 0, .int .i64 0, .int .i64 0, .int .i64 0, .int .i64 0, .int .i64 0, .int .i64 0, .int .i64 0, .int .i64 0, .int .i64 0, .int .i64 0, .int .i64 0, .int .i64 0, .int .i64 0, .int .i64 0, .slice none 0 0, .slice none 0 0, .int .i64 0, .int .i64 0, .int .i64 0, .int .i64 0, .bool false, .int .i64 0] 49) := ⟨_, rfl⟩
  have E1 : Hid (Ext w w1) := by rw [hw]; exact eal (Ext.refl w) _
  have O1 : Hid (Own w1 w.heap.size [.slice none 0 0, .int .i64 0, .int .i64 0, .int .i64 0, .int .i64 0, .int .i64 0, .int .i64 0, .string ⟨#[]⟩, .int .i64 0, .int .i64 0, .int .i64 0, .int .i64 0, .int .i64 0, .int .i64 0, .int .i64 0, .int .i64 0, .int .i64 0, .int .i64 0, .int .i64 0, .int .i64 0, .int .i64 0, .int .i64 0, .int .i64 0, .int .i64 0, .slice none 0 0, .slice none 0 0, .int .i64 0, .int .i64 0, .int .i64 0, .int .i64 0, .bool false, .int .i64 0]) := by rw [hw]; exact Own.new (w := w) (cs := #[.slice none 0 0, .int .i64 0, .int .i64 0, .int .i64 0, .int .i64 0, .int .i64 0, .int .i64 0, .string ⟨#[]⟩, .int .i64 0, .int .i64 0, .int .i64 0, .int .i64 0, .int .i64 0, .int .i64 0, .int .i64 0, .int .i64 0, .int .i64 0, .int .i64 0, .int .i64 0, .int .i64 0, .int .i64 0, .int .i64 0, .int .i64 0, .int .i64 0, .slice none 0 0, .slice none 0 0, .int .i64 0, .int .i64 0, .int .i64 0, .int .i64 0, .bool false, .int .i64 0]) (t := 49) (by simp)
  go_enter Tryd.func27, Tryd.ntmps27
  go_upto_region 1 with (fail)
  rw [← hw]
  clear hw
  go_upto_region 2 with (fail)
  obtain ⟨w2, hw⟩ : ∃ w2, w2 = w1.alloc (.cells #[.int .i64 1, .string ⟨#[110]⟩, .int .i64 5000, .int .i64 3000, .int .i64 100, .int .i64 50, .int .i64 100, .int .i64 1, .int .i64 0, .int .i64 0] 35) := ⟨_, rfl⟩
  rw [← hw]
  have E2 : Hid (Ext w1 w2) := by rw [hw]; exact eal (Ext.refl w1) _
  have T2 : Hid (Own w2 w1.heap.size [.int .i64 1, .string ⟨#[110]⟩, .int .i64 5000, .int .i64 3000, .int .i64 100, .int .i64 50, .int .i64 100, .int .i64 1, .int .i64 0, .int .i64 0]) := by rw [hw]; exact Own.new (w := w1) (cs := #[.int .i64 1, .string ⟨#[110]⟩, .int .i64 5000, .int .i64 3000, .int .i64 100, .int .i64 50, .int .i64 100, .int .i64 1, .int .i64 0, .int .i64 0]) (t := 35) (by simp)
  clear hw
  have S3 : Hid (CellsAt (w2.alloc (.cells #[.int .i64 0, .int .i64 0, .int .i64 1] 75)) w2.heap.size (exS.flatMap Stc)) := CellsAt.new rfl
  have E3 : Hid (Ext w2 (w2.alloc (.cells #[.int .i64 0, .int .i64 0, .int .i64 1] 75))) := eal (Ext.refl _) _
  have O3 : Hid (Own (w2.alloc (.cells #[.int .i64 0, .int .i64 0, .int .i64 1] 75)) w.heap.size [.slice none 0 0, .int .i64 0, .int .i64 0, .int .i64 0, .int .i64 0, .int .i64 0, .int .i64 0, .string ⟨#[]⟩, .int .i64 0, .int .i64 0, .int .i64 0, .int .i64 0, .int .i64 0, .int .i64 0, .int .i64 0, .int .i64 0, .int .i64 0, .int .i64 0, .int .i64 0, .int .i64 0, .int .i64 0, .int .i64 0, .int .i64 0, .int .i64 0, .slice none 0 0, .slice none 0 0, .int .i64 0, .int .i64 0, .int .i64 0, .int .i64 0, .bool false, .int .i64 0]) := (O1.out.keep E2.out).keep E3.out
  go_wp2_with (first | (refine wp_ldN 35 [.int .i64 1, .string ⟨#[110]⟩, .int .i64 5000, .int .i64 3000, .int .i64 100, .int .i64 50, .int .i64 100, .int .i64 1, .int .i64 0, .int .i64 0] rfl rfl rfl (T2.out.keep E3.out).cells Tryd.underlying35 szTr rfl ?_) | (refine wp_stN 49 [.slice (some ⟨w2.heap.size, 0, none⟩) 1 1, .int .i64 h, .int .i64 5000, .int .i64 v, .int .i64 0, .int .i64 0, .int .i64 1, .string ⟨#[110]⟩, .int .i64 5000, .int .i64 3000, .int .i64 100, .int .i64 50, .int .i64 100, .int .i64 1, .int .i64 0, .int .i64 0, .int .i64 0, .int .i64 br, .int .i64 0, .int .i64 0, .int .i64 0, .int .i64 0, .int .i64 0, .int .i64 0, .slice none 0 0, .slice none 0 0, .int .i64 0, .int .i64 0, .int .i64 0, .int .i64 0, .bool false, .int .i64 0] [.slice (some ⟨w2.heap.size, 0, none⟩) 1 1, .int .i64 h, .int .i64 5000, .int .i64 v, .int .i64 0, .int .i64 0, .int .i64 1, .string ⟨#[110]⟩, .int .i64 5000, .int .i64 3000, .int .i64 100, .int .i64 50, .int .i64 100, .int .i64 1, .int .i64 0, .int .i64 0, .int .i64 0, .int .i64 br, .int .i64 0, .int .i64 0, .int .i64 0, .int .i64 0, .int .i64 0, .int .i64 0, .slice none 0 0, .slice none 0 0, .int .i64 0, .int .i64 0, .int .i64 0, .int .i64 0, .bool false, .int .i64 0] rfl rfl rfl O3.out rfl szUnt rfl (by show (0 + 32 : Nat) ≤ 32; decide) rfl ?_; intro w4 H4))
  refine bodyPost_ret (res_c (by rfl) (by rfl) H4.out.1.cells Tryd.underlying49 szUnt) rfl ⟨w2.heap.size, rfl, rd_cells Stc_len (S3.out.only H4.out.2 (by have := O1.out.1; have := E2.out.size; omega)), eonly (etr (etr E1.out E2.out) E3.out) H4.out.2 (Nat.le_refl _)⟩
/-- Are two lists of readings equal? -/
def eqR (a b : List Rea) : Prop := a.map (fun r => (r.id, r.off)) = b.map (fun r => (r.id, r.off))
theorem sreads_any (A : Option Addr) (c : Nat) (B : Option Addr) (d : Nat) (xs : List Rea) (w : World) (ha : Rd w A 2 Rec xs) (hb : Rd w B 2 Rec xs) (hm : xs.length ≤ maxLen) : Calls Tryd.prog 20 #[.slice A xs.length c, .slice B xs.length d] w fun e w' => e = .returned (.bool true) ∧ Below w.heap.size w w' := by
  unfold maxLen at hm
  have HR := Lib.hid ha
  have HR2 := Lib.hid hb
  clear ha hb
  go_enter Tryd.func20, Tryd.ntmps20
  go_wp2
  go_loopg [5] xs.length (fun g ix wr => ∃ k : Nat, ix = .int .i64 k ∧ k ≤ xs.length ∧ g = xs.length - k ∧ Hid (Ext w wr))
  case atStart => exact ⟨0, rfl, by omega, rfl, Ext.refl _⟩
  case round =>
    obtain ⟨k, rfl, hk, hg, H⟩ := hrel
    have HG := Lib.hid hg
    clear hg
    by_cases hlt : k < xs.length
    · have q0 : decide ((k : Int) < (xs.length : Int)) = true := decide_eq_true (by omega)
      obtain ⟨bw, ow, s, rfl, hs, hbs, s0, s1⟩ := rd_rea HR.out H.out hlt
      obtain ⟨bv, ov, s', rfl, hs', hbv, t0, t1⟩ := rd_rea HR2.out H.out hlt
      rw [hs] at hs'
      cases hs'
      clear hs
      go_upto_region 6 with (fail)
      refine wp_region_after (by kernel_rfl) (by kernel_rfl) ?_
      repeat (first | go_big_quiet_step (fail))
      refine wpQuiet_nil ?_
      rintro _ ⟨y, rfl⟩
      go_wp2
      go_roundg (xs.length - (k + 1))
      case measure => have := HG.out; omega
      case rel => exact ⟨k + 1, by go_num, by omega, rfl, etr H.out y.is⟩
    · have q0 : decide ((k : Int) < (xs.length : Int)) = false := decide_eq_false (by omega)
      go_wp2
      go_ret
      exact ⟨rfl, H.out⟩
end
end Go.Proofs.YticonpjkcocgeaaDoor
