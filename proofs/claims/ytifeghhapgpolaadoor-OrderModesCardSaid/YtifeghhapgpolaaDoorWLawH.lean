/- Walks of chapter 44's laws: the examples, Gives, Looks, Expires. -/
import Derived.Test.YtifeghhapgpolaaDoorWOrdD
set_option linter.unusedVariables false
set_option linter.unusedSimpArgs false
namespace Go.Proofs.YtifeghhapgpolaaDoor
open Go.ChangeShapes Go.WideShapes Go.ChangeAt Go.RowKit
open Sg

def oA : Odr := ⟨7, 7, 20⟩
def oB : Odr := ⟨3, 6, 9⟩
def oC : Odr := ⟨7, 5, 20⟩
theorem exA : givE [] oA 5 = 0 ∧ givL [] oA 5 = [oA] := ⟨by decide, rfl⟩
theorem exB : givE [oA] oB 5 = 0 ∧ givL [oA] oB 5 = [oB, oA] := ⟨by decide, rfl⟩
theorem exC : givE [oB, oA] oC 20 = 1 := by decide
theorem exI1 : inV [oB, oA] 7 7 20 = true := by decide
theorem exI2 : inV [oB, oA] 7 7 21 = false := by decide
theorem exI3 : inV [oB, oA] 8 7 20 = false := by decide
theorem exX : expR [oB, oA] 10 = [oA] := rfl
/-- Give at an example. -/
theorem give_at {l m : List Odr} {o : Odr} {now err : Int} (A : Option Addr) (c : Nat) (w : World) (hm : l.length ≤ 400000) (hr : Rd w A 3 Oc l) (he : givE l o now = err) (hl : givL l o now = m) :
    Calls Tryd.prog 9 #[.slice A l.length c, .agg #[.int .i64 o.train, .int .i64 o.kind, .int .i64 o.until_], .int .i64 now] w fun e w' => ∃ B d, e = .returned (.tuple #[.slice B m.length d, .int .i64 err]) ∧ Rd w' B 3 Oc m ∧ Below w.heap.size w w' :=
  (give_any A l c o now w hm hr).mono fun e w' ⟨B, d, h1, h2, h3⟩ => ⟨B, d, by rw [h1, he, hl], by rw [← hl]; exact h2, h3⟩
theorem len_le {l : List Odr} (h : l.length ≤ 400000) : l.length ≤ maxLen := by unfold maxLen; omega
set_option maxHeartbeats 8000000 in
set_option maxRecDepth 100000 in
theorem alive_any (w : World) : Calls Tryd.prog 6 #[] w fun e w' => e = .returned (.bool true) ∧ Below w.heap.size w w' := by
  have HV5 : Hid (sml_od [oB, oA] [oB, oA] = true) := sml_od_true.2 rfl
  go_enter Tryd.func6, Tryd.ntmps6
  go_wp2_with fail
  refine (give_at none 0 _ (by simp) Rd.nil exA.1 exA.2).mono ?_
  rintro e w1 ⟨B1, d1, rfl, hr1, hb1⟩
  have HR1 := Lib.hid hr1
  have HB1 := Lib.hid hb1
  clear hr1 hb1
  simp only [List.length_cons, List.length_nil, Nat.zero_add]
  go_wp2_with fail
  refine (give_at (l := [oA]) B1 d1 _ (by simp) HR1.out exB.1 exB.2).mono ?_
  rintro e w2 ⟨B2, d2, rfl, hr2, hb2⟩
  have HR2 := Lib.hid hr2
  have HB2 := Lib.hid (etr HB1.out hb2)
  clear hr2 hb2
  simp only [List.length_cons, List.length_nil, Nat.zero_add, Nat.reduceAdd]
  go_wp2_with fail
  refine (give_at (l := [oB, oA]) B2 d2 _ (by simp) HR2.out exC rfl).mono ?_
  rintro e w3 ⟨B3, d3, rfl, hr3, hb3⟩
  have HR3 := Lib.hid (HR2.out.keep hb3)
  have HB3 := Lib.hid (etr HB2.out hb3)
  clear hr3 hb3
  go_wp2_with fail
  refine (to_after (same_od B2 (some ⟨_, 0, none⟩) [oB, oA] [oB, oA] d2 2 _ (by unfold maxLen; simp) (by unfold maxLen; simp) (HR3.out.keep (eal (Ext.refl _) _)) (rd_cells (xs := [oB, oA]) Oc_len (CellsAt.new rfl)))).mono ?_
  rintro e w' ⟨y4, rfl, rfl⟩
  rw [HV5.out]
  have HX4 := Lib.hid (etr (eal (Ext.refl w3) _) y4.is)
  go_wp2_with fail
  refine (in_after y4 (inforce_any B2 [oB, oA] d2 7 7 20 _ (by unfold maxLen; simp) (HR3.out.keep HX4.out))).mono ?_
  rintro e w' ⟨y5, rfl, rfl⟩
  rw [exI1]
  have HX5 := Lib.hid (etr (eal (Ext.refl w3) _) y5.is)
  go_wp2_with fail
  refine (in_after y5 (inforce_any B2 [oB, oA] d2 7 7 21 _ (by unfold maxLen; simp) (HR3.out.keep HX5.out))).mono ?_
  rintro e w' ⟨y6, rfl, rfl⟩
  rw [exI2]
  have HX6 := Lib.hid (etr (eal (Ext.refl w3) _) y6.is)
  go_wp2_with fail
  refine (in_after y6 (inforce_any B2 [oB, oA] d2 8 7 20 _ (by unfold maxLen; simp) (HR3.out.keep HX6.out))).mono ?_
  rintro e w' ⟨y7, rfl, rfl⟩
  rw [exI3]
  have HX7 := Lib.hid (etr (eal (Ext.refl w3) _) y7.is)
  go_wp2_with fail
  refine (expire_any B2 [oB, oA] d2 10 _ (by simp) (HR3.out.keep HX7.out)).mono ?_
  rintro e w8 ⟨v8, rfl, ho8, hb8⟩
  rw [exX] at ho8
  obtain ⟨A8, cap8, rfl, _, _⟩ := ho8.rd Oc_len
  have HB8 := Lib.hid (etr HB3.out (etr HX7.out hb8))
  clear ho8 hb8
  go_wp2_with (go_at_call 4; refine (event_any _ _).mono ?_; rintro e w' ⟨rfl, rfl⟩)
  go_ret
  exact ⟨rfl, HB8.out⟩
end Go.Proofs.YtifeghhapgpolaaDoor
