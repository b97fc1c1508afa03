/- Walks of chapter 44's laws: the examples, Gives, Looks, Expires. -/
import Derived.Test.YtifeghhapgpolaaWOrdD
set_option linter.unusedVariables false
set_option linter.unusedSimpArgs false
namespace Go.Proofs.Ytifeghhapgpolaa
open Go.ChangeShapes Go.WideShapes Go.ChangeAt Go.RowKit
open Sg

def oA : Odr := ⟨7, 7, 20⟩
def oB : Odr := ⟨3, 6, 9⟩
def oC : Odr := ⟨7, 5, 20⟩
theorem exA : givE [] oA 5 = 0 ∧ givL [] oA 5 = [oA] := ⟨by decide, rfl⟩
theorem exB : givE [oA] oB 5 = 0 ∧ givL [oA] oB 5 = [oB, oA] := ⟨by decide, rfl⟩
theorem exC : givE [oB, oA] oC 20 = 1 := by decide
theorem exI1 : inV [oB, oA] 7 7 20 = true := by decide
theorem exI2 : inV [oB, oA] 7 7 21 = false := by decide
theorem exI3 : inV [oB, oA] 8 7 20 = false := by decide
theorem exX : expR [oB, oA] 10 = [oA] := rfl
/-- Give at an example. -/
theorem give_at {l m : List Odr} {o : Odr} {now err : Int} (A : Option Addr) (c : Nat) (w : World) (hm : l.length ≤ 400000) (hr : Rd w A 3 Oc l) (he : givE l o now = err) (hl : givL l o now = m) :
    Calls Try.prog 8 #[.slice A l.length c, .agg #[.int .i64 o.train, .int .i64 o.kind, .int .i64 o.until_], .int .i64 now] w fun e w' => ∃ B d, e = .returned (.tuple #[.slice B m.length d, .int .i64 err]) ∧ Rd w' B 3 Oc m ∧ Below w.heap.size w w' :=
  (give_any A l c o now w hm hr).mono fun e w' ⟨B, d, h1, h2, h3⟩ => ⟨B, d, by rw [h1, he, hl], by rw [← hl]; exact h2, h3⟩
theorem len_le {l : List Odr} (h : l.length ≤ 400000) : l.length ≤ maxLen := by unfold maxLen; omega
set_option maxHeartbeats 8000000 in
set_option maxRecDepth 100000 in
theorem alive_any (w : World) : Calls Try.prog 7 #[] w fun e w' => e = .returned (.bool true) ∧ Below w.heap.size w w' := by
  have HV5 : Hid (sml_od [oB, oA] [oB, oA] = true) := sml_od_true.2 rfl
  go_enter Try.func7, Try.ntmps7
  go_wp2_with fail
  refine (give_at none 0 _ (by simp) Rd.nil exA.1 exA.2).mono ?_
  rintro e w1 ⟨B1, d1, rfl, hr1, hb1⟩
  have HR1 := Lib.hid hr1
  have HB1 := Lib.hid hb1
  clear hr1 hb1
  simp only [List.length_cons, List.length_nil, Nat.zero_add]
  go_wp2_with fail
  refine (give_at (l := [oA]) B1 d1 _ (by simp) HR1.out exB.1 exB.2).mono ?_
  rintro e w2 ⟨B2, d2, rfl, hr2, hb2⟩
  have HR2 := Lib.hid hr2
  have HB2 := Lib.hid (etr HB1.out hb2)
  clear hr2 hb2
  simp only [List.length_cons, List.length_nil, Nat.zero_add, Nat.reduceAdd]
  go_wp2_with fail
  refine (give_at (l := [oB, oA]) B2 d2 _ (by simp) HR2.out exC rfl).mono ?_
  rintro e w3 ⟨B3, d3, rfl, hr3, hb3⟩
  have HR3 := Lib.hid (HR2.out.keep hb3)
  have HB3 := Lib.hid (etr HB2.out hb3)
  clear hr3 hb3
  go_wp2_with fail
  refine (to_after (same_od B2 (some ⟨_, 0, none⟩) [oB, oA] [oB, oA] d2 2 _ (by unfold maxLen; simp) (by unfold maxLen; simp) (HR3.out.keep (eal (Ext.refl _) _)) (rd_cells (xs := [oB, oA]) Oc_len (CellsAt.new rfl)))).mono ?_
  rintro e w' ⟨y4, rfl, rfl⟩
  rw [HV5.out]
  have HX4 := Lib.hid (etr (eal (Ext.refl w3) _) y4.is)
  go_wp2_with fail
  refine (in_after y4 (inforce_any B2 [oB, oA] d2 7 7 20 _ (by unfold maxLen; simp) (HR3.out.keep HX4.out))).mono ?_
  rintro e w' ⟨y5, rfl, rfl⟩
  rw [exI1]
  have HX5 := Lib.hid (etr (eal (Ext.refl w3) _) y5.is)
  go_wp2_with fail
  refine (in_after y5 (inforce_any B2 [oB, oA] d2 7 7 21 _ (by unfold maxLen; simp) (HR3.out.keep HX5.out))).mono ?_
  rintro e w' ⟨y6, rfl, rfl⟩
  rw [exI2]
  have HX6 := Lib.hid (etr (eal (Ext.refl w3) _) y6.is)
  go_wp2_with fail
  refine (in_after y6 (inforce_any B2 [oB, oA] d2 8 7 20 _ (by unfold maxLen; simp) (HR3.out.keep HX6.out))).mono ?_
  rintro e w' ⟨y7, rfl, rfl⟩
  rw [exI3]
  have HX7 := Lib.hid (etr (eal (Ext.refl w3) _) y7.is)
  go_wp2_with fail
  refine (expire_any B2 [oB, oA] d2 10 _ (by simp) (HR3.out.keep HX7.out)).mono ?_
  rintro e w8 ⟨v8, rfl, ho8, hb8⟩
  rw [exX] at ho8
  obtain ⟨A8, cap8, rfl, _, _⟩ := ho8.rd Oc_len
  have HB8 := Lib.hid (etr HB3.out (etr HX7.out hb8))
  clear ho8 hb8
  go_wp2_with (go_at_call 15; refine (event_any _ _).mono ?_; rintro e w' ⟨rfl, rfl⟩)
  go_ret
  exact ⟨rfl, HB8.out⟩
set_option maxHeartbeats 8000000 in
theorem gives_walk (A : Option Addr) (l : List Odr) (c : Nat) (o : Odr) (now : Int) (w : World) (hr : Rd w A 3 Oc l) :
    Calls Try.prog 3 #[.slice A l.length c, .agg #[.int .i64 o.train, .int .i64 o.kind, .int .i64 o.until_], .int .i64 now] w fun e w' => e = .returned (.bool true) ∧ Below w.heap.size w w' := by
  have HR := Lib.hid hr
  clear hr
  have HE0 := Lib.hid (eal (Ext.refl w) (.cells #[.int .i64 o.train, .int .i64 o.kind, .int .i64 o.until_] 24))
  by_cases hl : 100 < l.length
  · go_enter Try.func3, Try.ntmps3
    go_wp2_with (go_at_call 7; refine (to_after (alive_any _)).mono ?_; rintro e w' ⟨z, rfl, rfl⟩)
    go_ret
    exact ⟨rfl, eafter HE0.out z⟩
  · have HS : Hid (sml_od (givL l o now) (givL l o now) = true) := sml_od_true.2 rfl
    have HM : Hid ((givL l o now).length ≤ maxLen) := len_le (by have := @give_len l o now; omega)
    go_enter Try.func3, Try.ntmps3
    go_wp2_with fail
    refine (give_any A l c o now _ (by omega) (HR.out.keep HE0.out)).mono ?_
    rintro e w1 ⟨B1, d1, rfl, hr1, hb1⟩
    have CB := (CellsAt.new (w := w) (cs := #[.int .i64 o.train, .int .i64 o.kind, .int .i64 o.until_]) (t := 24) rfl).keep hb1
    have b0 := CB.2 0 _ rfl
    have b1 := CB.2 1 _ rfl
    have b2 := CB.2 2 _ rfl
    have bz := CB.1
    have HR1 := Lib.hid hr1
    have HB1 := Lib.hid (etr HE0.out hb1)
    clear hr1 hb1 CB
    go_wp2_with fail
    refine (rgive_any A l c o now _ (by omega) (HR.out.keep HB1.out)).mono ?_
    rintro e w2 ⟨B2, d2, rfl, hr2, hb2⟩
    have HR2 := Lib.hid hr2
    have HR1' := Lib.hid (HR1.out.keep hb2)
    have HB2 := Lib.hid (etr HB1.out hb2)
    clear hr2 hb2
    go_wp2_with fail
    refine (to_after (same_od B1 B2 (givL l o now) (givL l o now) d1 d2 _ HM.out HM.out HR1'.out HR2.out)).mono ?_
    rintro e w' ⟨y3, rfl, rfl⟩
    rw [HS.out]
    go_wp2_with (go_at_call 7; refine (in_after y3 (alive_any _)).mono ?_; rintro e w' ⟨z, rfl, rfl⟩)
    go_ret
    exact ⟨rfl, eafter HB2.out z⟩
set_option maxHeartbeats 8000000 in
theorem looks_walk (A : Option Addr) (l : List Odr) (c : Nat) (t k now : Int) (w : World) (hm : l.length ≤ maxLen) (hr : Rd w A 3 Oc l) :
    Calls Try.prog 4 #[.slice A l.length c, .int .i64 t, .int .i64 k, .int .i64 now] w fun e w' => e = .returned (.bool true) ∧ Below w.heap.size w w' := by
  have HR := Lib.hid hr
  have HM := Lib.hid hm
  clear hr hm
  by_cases hl : 100 < l.length
  · go_enter Try.func4, Try.ntmps4
    go_wp2_with (go_at_call 7; refine (to_after (alive_any _)).mono ?_; rintro e w' ⟨z, rfl, rfl⟩)
    go_ret
    exact ⟨rfl, z.is⟩
  · have HS : Hid (sml_od (expR l now) (expR l now) = true) := sml_od_true.2 rfl
    have HL : Hid ((expR l now).length ≤ maxLen) := len_le (by have := expR_len l now; omega)
    obtain ⟨bi, hbi⟩ : ∃ bi, bi = inV l t k now := ⟨_, rfl⟩
    obtain ⟨ev, hev⟩ : ∃ ev, ev = evV k := ⟨_, rfl⟩
    go_enter Try.func4, Try.ntmps4
    go_wp2_with fail
    refine (to_after (inforce_any A l c t k now _ HM.out HR.out)).mono ?_
    rintro e w' ⟨y1, rfl, rfl⟩
    rw [← hbi]
    go_wp2_with fail
    refine (in_after y1 (rinforce_any A l c t k now _ HM.out (HR.out.keep y1.is))).mono ?_
    rintro e w' ⟨y2, rfl, rfl⟩
    rw [← hbi]
    have hbb : (bi == bi) = true := by cases bi <;> rfl
    go_wp2_with fail
    refine (expire_any A l c now _ (by omega) (HR.out.keep y2.is)).mono ?_
    rintro e w3 ⟨v3, rfl, ho3, hb3⟩
    have HO3 := Lib.hid ho3
    have HB3 := Lib.hid (etr y2.is hb3)
    clear ho3 hb3
    go_wp2_with fail
    refine (rexpire_any A l c now _ (by omega) (HR.out.keep HB3.out)).mono ?_
    rintro e w4 ⟨v4, rfl, ho4, hb4⟩
    obtain ⟨A3, c3, rfl, hr3, _⟩ := (HO3.out.keep hb4).rd Oc_len
    obtain ⟨A4, c4, rfl, hr4, _⟩ := ho4.rd Oc_len
    have HR3 := Lib.hid hr3
    have HR4 := Lib.hid hr4
    have HB4 := Lib.hid (etr HB3.out hb4)
    clear hr3 hr4 ho4 hb4
    go_wp2_with fail
    refine (to_after (same_od A3 A4 (expR l now) (expR l now) c3 c4 _ HL.out HL.out HR3.out HR4.out)).mono ?_
    rintro e w' ⟨y5, rfl, rfl⟩
    rw [HS.out]
    go_wp2_with fail
    refine (event_any k _).mono ?_
    rintro e w' ⟨rfl, rfl⟩
    rw [← hev]
    go_wp2_with fail
    refine (revent_any k _).mono ?_
    rintro e w' ⟨rfl, rfl⟩
    rw [← hev]
    have hee : (ev == ev) = true := by simp
    go_wp2_with (go_at_call 7; refine (in_after y5 (alive_any _)).mono ?_; rintro e w' ⟨z, rfl, rfl⟩)
    go_ret
    exact ⟨rfl, eafter HB4.out z⟩
end Go.Proofs.Ytifeghhapgpolaa
