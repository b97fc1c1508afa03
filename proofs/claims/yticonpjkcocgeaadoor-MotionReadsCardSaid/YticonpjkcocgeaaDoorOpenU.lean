/- What is known of chapter 51's arguments: units, bodies. Printed by gen_openu.py. -/
import Derived.Test.YticonpjkcocgeaaDoorOpenB
import Derived.Test.YticonpjkcocgeaaDoorTUni
set_option maxRecDepth 100000
set_option linter.unusedVariables false
namespace Go.Proofs.YticonpjkcocgeaaDoor
open Go.ChangeShapes Go.WideShapes Go.ChangeAt Go.RowKit
open Sg

def LnkI (s : Lnk) : Prop := I64 s.id ∧ I64 s.at_
section
variable {H : Type} {enc : TypeId × Value → H} {w : World} {base b0 : Nat} {spare : Nat → Bool} {held : Bool} {r : Reach} {v : Value} {d : DataW H} {ps : List MemPlace}
theorem leaves_lnk {cs : List Value} (h : Leaves enc Tryd.prog w base spare held [3, 3] cs) : ∃ T : Lnk, cs = Lkc T ∧ LnkI T := by
  obtain ⟨c0, r0, rfl, l0, h⟩ := leaves_cons h
  obtain ⟨c1, r1, rfl, l1, h⟩ := leaves_cons h
  obtain rfl := leaves_nil h
  obtain ⟨v0, rfl, b0⟩ := leaf_i64 Tryd.underlying3 l0
  obtain ⟨v1, rfl, b1⟩ := leaf_i64 Tryd.underlying3 l1
  exact ⟨⟨v0, v1⟩, rfl, b0, b1⟩
theorem leaf_lnks {c : Value} (h : Leaf enc Tryd.prog w base spare held 39 c) : ∃ A xs cap, c = .slice A (List.length xs) cap ∧ Rd w A 2 Lkc xs ∧ xs.length ≤ maxLen ∧ xs.length ≤ cap ∧ ∀ (i : Nat) (x : Lnk), xs[i]? = some x → LnkI x :=
  leaf_slice (n := 3) (en := Lkc) (Q := LnkI) Tryd.underlying39 (l := [3, 3]) (by kernel_rfl) (by decide) (fun cs hl => leaves_lnk hl) h
theorem open_unt (hv : Value.okWide Tryd.prog w r b0 49 v) (h : DataW.Trod enc Tryd.prog w base spare held 49 v d ps) : ∃ (A : Option Addr) (way : List Stp) (c : Nat) (head len speed x br : Int) (C : Cu) (B : Option Addr) (cb : Nat) (K : Option Addr) (ck : Nat), v = .agg #[.slice A way.length c, .int .i64 head, .int .i64 len, .int .i64 speed, .int .i64 x, .int .i64 br, .int .i64 C.T.id, .string C.T.name, .int .i64 C.T.len, .int .i64 C.T.speed, .int .i64 C.T.accel, .int .i64 C.T.service, .int .i64 C.T.emergency, .int .i64 C.T.delay, .int .i64 C.T.cons, .int .i64 C.T.rate, .int .i64 C.mode, .int .i64 C.brake, .int .i64 C.next, .int .i64 C.emin, .int .i64 C.emax, .int .i64 C.espeed, .int .i64 C.seq, .int .i64 C.en, .slice B C.p.length cb, .slice K C.k.length ck, .int .i64 C.peer, .int .i64 C.out, .int .i64 C.inn, .int .i64 C.heard, .bool C.known, .int .i64 C.since] ∧ Rd w A 3 Stc way ∧ way.length ≤ c ∧ Rd w B 4 Sgc C.p ∧ C.p.length ≤ cb ∧ Rd w K 2 Lkc C.k ∧ C.k.length ≤ ck ∧ C.T.name.size ≤ maxLen ∧ I64 speed := by
  obtain ⟨cs, rfl, hL⟩ := open_flat (n := 5) (l := [30, 3, 3, 3, 3, 3, 3, 9, 3, 3, 3, 3, 3, 3, 3, 3, 3, 3, 3, 3, 3, 3, 3, 3, 38, 39, 3, 3, 3, 3, 4, 3]) Tryd.underlying49 (by kernel_rfl) hv h
  obtain ⟨c0, r0, rfl, l0, hL⟩ := leaves_cons hL
  obtain ⟨c1, r1, rfl, l1, hL⟩ := leaves_cons hL
  obtain ⟨c2, r2, rfl, l2, hL⟩ := leaves_cons hL
  obtain ⟨c3, r3, rfl, l3, hL⟩ := leaves_cons hL
  obtain ⟨c4, r4, rfl, l4, hL⟩ := leaves_cons hL
  obtain ⟨c5, r5, rfl, l5, hL⟩ := leaves_cons hL
  obtain ⟨c6, r6, rfl, l6, hL⟩ := leaves_cons hL
  obtain ⟨c7, r7, rfl, l7, hL⟩ := leaves_cons hL
  obtain ⟨c8, r8, rfl, l8, hL⟩ := leaves_cons hL
  obtain ⟨c9, r9, rfl, l9, hL⟩ := leaves_cons hL
  obtain ⟨c10, r10, rfl, l10, hL⟩ := leaves_cons hL
  obtain ⟨c11, r11, rfl, l11, hL⟩ := leaves_cons hL
  obtain ⟨c12, r12, rfl, l12, hL⟩ := leaves_cons hL
  obtain ⟨c13, r13, rfl, l13, hL⟩ := leaves_cons hL
  obtain ⟨c14, r14, rfl, l14, hL⟩ := leaves_cons hL
  obtain ⟨c15, r15, rfl, l15, hL⟩ := leaves_cons hL
  obtain ⟨c16, r16, rfl, l16, hL⟩ := leaves_cons hL
  obtain ⟨c17, r17, rfl, l17, hL⟩ := leaves_cons hL
  obtain ⟨c18, r18, rfl, l18, hL⟩ := leaves_cons hL
  obtain ⟨c19, r19, rfl, l19, hL⟩ := leaves_cons hL
  obtain ⟨c20, r20, rfl, l20, hL⟩ := leaves_cons hL
  obtain ⟨c21, r21, rfl, l21, hL⟩ := leaves_cons hL
  obtain ⟨c22, r22, rfl, l22, hL⟩ := leaves_cons hL
  obtain ⟨c23, r23, rfl, l23, hL⟩ := leaves_cons hL
  obtain ⟨c24, r24, rfl, l24, hL⟩ := leaves_cons hL
  obtain ⟨c25, r25, rfl, l25, hL⟩ := leaves_cons hL
  obtain ⟨c26, r26, rfl, l26, hL⟩ := leaves_cons hL
  obtain ⟨c27, r27, rfl, l27, hL⟩ := leaves_cons hL
  obtain ⟨c28, r28, rfl, l28, hL⟩ := leaves_cons hL
  obtain ⟨c29, r29, rfl, l29, hL⟩ := leaves_cons hL
  obtain ⟨c30, r30, rfl, l30, hL⟩ := leaves_cons hL
  obtain ⟨c31, r31, rfl, l31, hL⟩ := leaves_cons hL
  obtain rfl := leaves_nil hL
  obtain ⟨a0, v0, m0, rfl, rd0, ln0, lm0, b0⟩ := leaf_sts l0
  obtain ⟨v1, rfl, b1⟩ := leaf_i64 Tryd.underlying3 l1
  obtain ⟨v2, rfl, b2⟩ := leaf_i64 Tryd.underlying3 l2
  obtain ⟨v3, rfl, b3⟩ := leaf_i64 Tryd.underlying3 l3
  obtain ⟨v4, rfl, b4⟩ := leaf_i64 Tryd.underlying3 l4
  obtain ⟨v5, rfl, b5⟩ := leaf_i64 Tryd.underlying3 l5
  obtain ⟨v6, rfl, b6⟩ := leaf_i64 Tryd.underlying3 l6
  obtain ⟨v7, rfl, b7⟩ := leaf_str Tryd.underlying9 l7
  obtain ⟨v8, rfl, b8⟩ := leaf_i64 Tryd.underlying3 l8
  obtain ⟨v9, rfl, b9⟩ := leaf_i64 Tryd.underlying3 l9
  obtain ⟨v10, rfl, b10⟩ := leaf_i64 Tryd.underlying3 l10
  obtain ⟨v11, rfl, b11⟩ := leaf_i64 Tryd.underlying3 l11
  obtain ⟨v12, rfl, b12⟩ := leaf_i64 Tryd.underlying3 l12
  obtain ⟨v13, rfl, b13⟩ := leaf_i64 Tryd.underlying3 l13
  obtain ⟨v14, rfl, b14⟩ := leaf_i64 Tryd.underlying3 l14
  obtain ⟨v15, rfl, b15⟩ := leaf_i64 Tryd.underlying3 l15
  obtain ⟨v16, rfl, b16⟩ := leaf_i64 Tryd.underlying3 l16
  obtain ⟨v17, rfl, b17⟩ := leaf_i64 Tryd.underlying3 l17
  obtain ⟨v18, rfl, b18⟩ := leaf_i64 Tryd.underlying3 l18
  obtain ⟨v19, rfl, b19⟩ := leaf_i64 Tryd.underlying3 l19
  obtain ⟨v20, rfl, b20⟩ := leaf_i64 Tryd.underlying3 l20
  obtain ⟨v21, rfl, b21⟩ := leaf_i64 Tryd.underlying3 l21
  obtain ⟨v22, rfl, b22⟩ := leaf_i64 Tryd.underlying3 l22
  obtain ⟨v23, rfl, b23⟩ := leaf_i64 Tryd.underlying3 l23
  obtain ⟨a24, v24, m24, rfl, rd24, ln24, lm24, b24⟩ := leaf_segs l24
  obtain ⟨a25, v25, m25, rfl, rd25, ln25, lm25, b25⟩ := leaf_lnks l25
  obtain ⟨v26, rfl, b26⟩ := leaf_i64 Tryd.underlying3 l26
  obtain ⟨v27, rfl, b27⟩ := leaf_i64 Tryd.underlying3 l27
  obtain ⟨v28, rfl, b28⟩ := leaf_i64 Tryd.underlying3 l28
  obtain ⟨v29, rfl, b29⟩ := leaf_i64 Tryd.underlying3 l29
  obtain ⟨v30, rfl⟩ := leaf_bool Tryd.underlying4 l30
  obtain ⟨v31, rfl, b31⟩ := leaf_i64 Tryd.underlying3 l31
  exact ⟨a0, v0, m0, v1, v2, v3, v4, v5, ⟨⟨v6, v7, v8, v9, v10, v11, v12, v13, v14, v15⟩, v16, v17, v18, v19, v20, v21, v22, v23, v24, v25, v26, v27, v28, v29, v30, v31⟩, a24, m24, a25, m25, rfl, rd0, lm0, rd24, lm24, rd25, lm25, b7, b3⟩
theorem open_bdy (hv : Value.okWide Tryd.prog w r b0 32 v) (h : DataW.Trod enc Tryd.prog w base spare held 32 v d ps) : ∃ (A : Option Addr) (way : List Stp) (c : Nat) (head len : Int), v = .agg #[.slice A way.length c, .int .i64 head, .int .i64 len] ∧ Rd w A 3 Stc way ∧ way.length ≤ c := by
  obtain ⟨cs, rfl, hL⟩ := open_flat (n := 5) (l := [30, 3, 3]) Tryd.underlying32 (by kernel_rfl) hv h
  obtain ⟨c0, r0, rfl, l0, hL⟩ := leaves_cons hL
  obtain ⟨c1, r1, rfl, l1, hL⟩ := leaves_cons hL
  obtain ⟨c2, r2, rfl, l2, hL⟩ := leaves_cons hL
  obtain rfl := leaves_nil hL
  obtain ⟨a0, v0, m0, rfl, rd0, ln0, lm0, b0⟩ := leaf_sts l0
  obtain ⟨v1, rfl, b1⟩ := leaf_i64 Tryd.underlying3 l1
  obtain ⟨v2, rfl, b2⟩ := leaf_i64 Tryd.underlying3 l2
  exact ⟨a0, v0, m0, v1, v2, rfl, rd0, lm0⟩
end
end Go.Proofs.YticonpjkcocgeaaDoor
