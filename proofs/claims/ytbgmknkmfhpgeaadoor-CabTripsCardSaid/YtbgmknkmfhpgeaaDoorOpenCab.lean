/- What is known of chapter 46's arguments: units, messages, movements. -/
import Derived.Test.YtbgmknkmfhpgeaaDoorOpenB
import Derived.Test.YtbgmknkmfhpgeaaDoorTCab
set_option maxRecDepth 100000
set_option linter.unusedVariables false
namespace Go.Proofs.YtbgmknkmfhpgeaaDoor
open Go.ChangeShapes Go.WideShapes Go.ChangeAt Go.RowKit
open Sg

section
variable {H : Type} {enc : TypeId × Value → H} {w : World} {base b0 : Nat} {spare : Nat → Bool} {held : Bool} {r : Reach} {v : Value} {d : DataW H} {ps : List MemPlace}
theorem open_cab (hv : Value.okWide Tryd.prog w r b0 35 v) (h : DataW.Trod enc Tryd.prog w base spare held 35 v d ps) : ∃ (c : Cb) (A : Option Addr) (ca : Nat) (L : Option Addr) (cl : Nat), v = .agg #[.int .i64 c.T.id, .string c.T.name, .int .i64 c.T.len, .int .i64 c.T.speed, .int .i64 c.T.accel, .int .i64 c.T.service, .int .i64 c.T.emergency, .int .i64 c.T.delay, .int .i64 c.T.cons, .int .i64 c.T.rate, .int .i64 c.mode, .int .i64 c.brake, .int .i64 c.next, .int .i64 c.E.min, .int .i64 c.E.max, .int .i64 c.E.speed, .int .i64 c.seq, .int .i64 c.en, .slice A c.p.length ca, .slice L c.k.length cl, .int .i64 c.peer, .int .i64 c.out, .int .i64 c.inn, .int .i64 c.heard, .bool c.known, .int .i64 c.since] ∧ Rd w A 4 Sgc c.p ∧ Rd w L 2 Lkc c.k ∧ c.T.name.size ≤ maxLen ∧ c.p.length ≤ maxLen ∧ c.k.length ≤ maxLen ∧ I64 c.out ∧ I64 c.heard ∧ I64 c.since := by
  obtain ⟨cs, rfl, hL⟩ := open_flat (n := 4) (l := [3, 9, 3, 3, 3, 3, 3, 3, 3, 3, 3, 3, 3, 3, 3, 3, 3, 3, 26, 27, 3, 3, 3, 3, 4, 3]) Tryd.underlying35 (by kernel_rfl) hv h
  obtain ⟨c0, r0, rfl, l0, hL⟩ := leaves_cons hL
  obtain ⟨c1, r1, rfl, l1, hL⟩ := leaves_cons hL
  obtain ⟨c2, r2, rfl, l2, hL⟩ := leaves_cons hL
  obtain ⟨c3, r3, rfl, l3, hL⟩ := leaves_cons hL
  obtain ⟨c4, r4, rfl, l4, hL⟩ := leaves_cons hL
  obtain ⟨c5, r5, rfl, l5, hL⟩ := leaves_cons hL
  obtain ⟨c6, r6, rfl, l6, hL⟩ := leaves_cons hL
  obtain ⟨c7, r7, rfl, l7, hL⟩ := leaves_cons hL
  obtain ⟨c8, r8, rfl, l8, hL⟩ := leaves_cons hL
  obtain ⟨c9, r9, rfl, l9, hL⟩ := leaves_cons hL
  obtain ⟨c10, r10, rfl, l10, hL⟩ := leaves_cons hL
  obtain ⟨c11, r11, rfl, l11, hL⟩ := leaves_cons hL
  obtain ⟨c12, r12, rfl, l12, hL⟩ := leaves_cons hL
  obtain ⟨c13, r13, rfl, l13, hL⟩ := leaves_cons hL
  obtain ⟨c14, r14, rfl, l14, hL⟩ := leaves_cons hL
  obtain ⟨c15, r15, rfl, l15, hL⟩ := leaves_cons hL
  obtain ⟨c16, r16, rfl, l16, hL⟩ := leaves_cons hL
  obtain ⟨c17, r17, rfl, l17, hL⟩ := leaves_cons hL
  obtain ⟨c18, r18, rfl, l18, hL⟩ := leaves_cons hL
  obtain ⟨c19, r19, rfl, l19, hL⟩ := leaves_cons hL
  obtain ⟨c20, r20, rfl, l20, hL⟩ := leaves_cons hL
  obtain ⟨c21, r21, rfl, l21, hL⟩ := leaves_cons hL
  obtain ⟨c22, r22, rfl, l22, hL⟩ := leaves_cons hL
  obtain ⟨c23, r23, rfl, l23, hL⟩ := leaves_cons hL
  obtain ⟨c24, r24, rfl, l24, hL⟩ := leaves_cons hL
  obtain ⟨c25, r25, rfl, l25, hL⟩ := leaves_cons hL
  obtain rfl := leaves_nil hL
  obtain ⟨v0, rfl, b0⟩ := leaf_i64 Tryd.underlying3 l0
  obtain ⟨v1, rfl, b1⟩ := leaf_str Tryd.underlying9 l1
  obtain ⟨v2, rfl, b2⟩ := leaf_i64 Tryd.underlying3 l2
  obtain ⟨v3, rfl, b3⟩ := leaf_i64 Tryd.underlying3 l3
  obtain ⟨v4, rfl, b4⟩ := leaf_i64 Tryd.underlying3 l4
  obtain ⟨v5, rfl, b5⟩ := leaf_i64 Tryd.underlying3 l5
  obtain ⟨v6, rfl, b6⟩ := leaf_i64 Tryd.underlying3 l6
  obtain ⟨v7, rfl, b7⟩ := leaf_i64 Tryd.underlying3 l7
  obtain ⟨v8, rfl, b8⟩ := leaf_i64 Tryd.underlying3 l8
  obtain ⟨v9, rfl, b9⟩ := leaf_i64 Tryd.underlying3 l9
  obtain ⟨v10, rfl, b10⟩ := leaf_i64 Tryd.underlying3 l10
  obtain ⟨v11, rfl, b11⟩ := leaf_i64 Tryd.underlying3 l11
  obtain ⟨v12, rfl, b12⟩ := leaf_i64 Tryd.underlying3 l12
  obtain ⟨v13, rfl, b13⟩ := leaf_i64 Tryd.underlying3 l13
  obtain ⟨v14, rfl, b14⟩ := leaf_i64 Tryd.underlying3 l14
  obtain ⟨v15, rfl, b15⟩ := leaf_i64 Tryd.underlying3 l15
  obtain ⟨v16, rfl, b16⟩ := leaf_i64 Tryd.underlying3 l16
  obtain ⟨v17, rfl, b17⟩ := leaf_i64 Tryd.underlying3 l17
  obtain ⟨a18, v18, m18, rfl, rd18, ln18, lm18, b18⟩ := leaf_segs l18
  obtain ⟨a19, v19, m19, rfl, rd19, ln19, lm19, b19⟩ := leaf_lnks l19
  obtain ⟨v20, rfl, b20⟩ := leaf_i64 Tryd.underlying3 l20
  obtain ⟨v21, rfl, b21⟩ := leaf_i64 Tryd.underlying3 l21
  obtain ⟨v22, rfl, b22⟩ := leaf_i64 Tryd.underlying3 l22
  obtain ⟨v23, rfl, b23⟩ := leaf_i64 Tryd.underlying3 l23
  obtain ⟨v24, rfl⟩ := leaf_bool Tryd.underlying4 l24
  obtain ⟨v25, rfl, b25⟩ := leaf_i64 Tryd.underlying3 l25
  exact ⟨⟨⟨v0, v1, v2, v3, v4, v5, v6, v7, v8, v9⟩, v10, v11, v12, ⟨v13, v14, v15⟩, v16, v17, v18, v19, v20, v21, v22, v23, v24, v25⟩, a18, m18, a19, m19, rfl, rd18, rd19, b1, ln18, ln19, b21, b23, b25⟩
theorem open_msg (hv : Value.okWide Tryd.prog w r b0 39 v) (h : DataW.Trod enc Tryd.prog w base spare held 39 v d ps) : ∃ (m : Ms) (A : Option Addr) (ca : Nat) (L : Option Addr) (cl : Nat), v = .agg #[.int .i64 m.kind, .int .i64 m.frm, .int .i64 m.to_, .int .i64 m.seq, .int .i64 m.time, .int .i64 m.aseq, .int .i64 m.aen, .slice A m.p.length ca, .slice L m.k.length cl, .int .i64 m.rmin, .int .i64 m.rspeed, .int .i64 m.rmode, .int .i64 m.racc, .bool m.rwhole] ∧ Rd w A 4 Sgc m.p ∧ Rd w L 2 Lkc m.k ∧ m.p.length ≤ maxLen ∧ m.k.length ≤ maxLen ∧ m.k.length ≤ cl ∧ I64 m.time := by
  obtain ⟨cs, rfl, hL⟩ := open_flat (n := 4) (l := [3, 3, 3, 3, 3, 3, 3, 26, 27, 3, 3, 3, 3, 4]) Tryd.underlying39 (by kernel_rfl) hv h
  obtain ⟨c0, r0, rfl, l0, hL⟩ := leaves_cons hL
  obtain ⟨c1, r1, rfl, l1, hL⟩ := leaves_cons hL
  obtain ⟨c2, r2, rfl, l2, hL⟩ := leaves_cons hL
  obtain ⟨c3, r3, rfl, l3, hL⟩ := leaves_cons hL
  obtain ⟨c4, r4, rfl, l4, hL⟩ := leaves_cons hL
  obtain ⟨c5, r5, rfl, l5, hL⟩ := leaves_cons hL
  obtain ⟨c6, r6, rfl, l6, hL⟩ := leaves_cons hL
  obtain ⟨c7, r7, rfl, l7, hL⟩ := leaves_cons hL
  obtain ⟨c8, r8, rfl, l8, hL⟩ := leaves_cons hL
  obtain ⟨c9, r9, rfl, l9, hL⟩ := leaves_cons hL
  obtain ⟨c10, r10, rfl, l10, hL⟩ := leaves_cons hL
  obtain ⟨c11, r11, rfl, l11, hL⟩ := leaves_cons hL
  obtain ⟨c12, r12, rfl, l12, hL⟩ := leaves_cons hL
  obtain ⟨c13, r13, rfl, l13, hL⟩ := leaves_cons hL
  obtain rfl := leaves_nil hL
  obtain ⟨v0, rfl, b0⟩ := leaf_i64 Tryd.underlying3 l0
  obtain ⟨v1, rfl, b1⟩ := leaf_i64 Tryd.underlying3 l1
  obtain ⟨v2, rfl, b2⟩ := leaf_i64 Tryd.underlying3 l2
  obtain ⟨v3, rfl, b3⟩ := leaf_i64 Tryd.underlying3 l3
  obtain ⟨v4, rfl, b4⟩ := leaf_i64 Tryd.underlying3 l4
  obtain ⟨v5, rfl, b5⟩ := leaf_i64 Tryd.underlying3 l5
  obtain ⟨v6, rfl, b6⟩ := leaf_i64 Tryd.underlying3 l6
  obtain ⟨a7, v7, m7, rfl, rd7, ln7, lm7, b7⟩ := leaf_segs l7
  obtain ⟨a8, v8, m8, rfl, rd8, ln8, lm8, b8⟩ := leaf_lnks l8
  obtain ⟨v9, rfl, b9⟩ := leaf_i64 Tryd.underlying3 l9
  obtain ⟨v10, rfl, b10⟩ := leaf_i64 Tryd.underlying3 l10
  obtain ⟨v11, rfl, b11⟩ := leaf_i64 Tryd.underlying3 l11
  obtain ⟨v12, rfl, b12⟩ := leaf_i64 Tryd.underlying3 l12
  obtain ⟨v13, rfl⟩ := leaf_bool Tryd.underlying4 l13
  exact ⟨⟨v0, v1, v2, v3, v4, v5, v6, v7, v8, v9, v10, v11, v12, v13⟩, a7, m7, a8, m8, rfl, rd7, rd8, ln7, ln8, lm8, b4⟩
theorem open_turn (hv : Value.okWide Tryd.prog w r b0 62 v) (h : DataW.Trod enc Tryd.prog w base spare held 62 v d ps) : ∃ (M : Int) (A : Option Addr) (rs : List Rea) (ca : Nat) (wh : Bool) (now : Int), v = .agg #[.int .i64 M, .slice A rs.length ca, .bool wh, .int .i64 now] ∧ Rd w A 2 Rec rs ∧ rs.length ≤ maxLen ∧ I64 now := by
  obtain ⟨cs, rfl, hL⟩ := open_flat (n := 4) (l := [3, 60, 4, 3]) Tryd.underlying62 (by kernel_rfl) hv h
  obtain ⟨c0, r0, rfl, l0, hL⟩ := leaves_cons hL
  obtain ⟨c1, r1, rfl, l1, hL⟩ := leaves_cons hL
  obtain ⟨c2, r2, rfl, l2, hL⟩ := leaves_cons hL
  obtain ⟨c3, r3, rfl, l3, hL⟩ := leaves_cons hL
  obtain rfl := leaves_nil hL
  obtain ⟨v0, rfl, b0⟩ := leaf_i64 Tryd.underlying3 l0
  obtain ⟨a1, v1, m1, rfl, rd1, ln1, lm1, b1⟩ := leaf_reas l1
  obtain ⟨v2, rfl⟩ := leaf_bool Tryd.underlying4 l2
  obtain ⟨v3, rfl, b3⟩ := leaf_i64 Tryd.underlying3 l3
  exact ⟨v0, a1, v1, m1, v2, v3, rfl, rd1, ln1, b3⟩
end
end Go.Proofs.YtbgmknkmfhpgeaaDoor
