/- Walks: sessions, modes, integrity. -/
import Derived.Test.YtbgmknkmfhpgeaaDoorWCabA
import Derived.Test.YtbgmknkmfhpgeaaDoorTab
import Derived.IntWalk
set_option linter.unusedVariables false
set_option linter.unusedSimpArgs false
set_option maxRecDepth 100000
namespace Go.Proofs.YtbgmknkmfhpgeaaDoor
open Go.ChangeShapes Go.WideShapes Go.ChangeAt Go.RowKit
open Sg
/-- What is read of the table of the modes' transitions. -/
structure Tabs (w : World) : Prop where
  lt : 1 < w.heap.size
  tr : ∀ m e : Nat, m < 8 → e < 8 → w.cell? ⟨1, m * 8 + e, none⟩ = some (.int .i64 (nxV m e))
theorem Tabs.keep {w w' : World} (h : Tabs w) (g : Ext w w') : Tabs w' :=
  ⟨Nat.lt_of_lt_of_le h.lt g.size, fun m e hm he => (Below.cell g (p := ⟨1, m * 8 + e, none⟩) h.lt).trans (h.tr m e hm he)⟩
theorem u64sub {a b : Int} (h : a ≤ b) (ha : I64 a) (hb : I64 b) : IntKind.u64.wrap (IntKind.u64.wrap b - IntKind.u64.wrap a) = b - a := by
  simp only [I64] at ha hb
  simp [IntKind.wrap, IntKind.signed, IntKind.bits]
  omega
theorem recent_any (a b l : Int) (hl : 0 ≤ l ∧ l ≤ 1000) (w : World) (ha : I64 a) (hb : I64 b) : Calls Tryd.prog 70 #[.int .i64 a, .int .i64 b, .int .i64 l] w fun e w' => e = .returned (.bool (recB a b l)) ∧ w = w' := by
  have wl : IntKind.u64.wrap l = l := IntWalk.u64_in l (by omega)
  by_cases h : a ≤ b
  · have h1 : decide (a ≤ b) = true := decide_eq_true h
    have HS := Lib.hid (u64sub h ha hb)
    go_enter Tryd.func70, Tryd.ntmps70
    go_wp2
    go_ret
    exact ⟨ret_bool (by rw [HS.out]; simp [recB, h]), rfl⟩
  · have h1 : decide (a ≤ b) = false := decide_eq_false h
    go_enter Tryd.func70, Tryd.ntmps70
    go_wp2
    go_ret
    exact ⟨ret_bool (by unfold recB; rw [h1]; rfl), rfl⟩
theorem ifresh_any (a b l : Int) (hl : 0 ≤ l ∧ l ≤ 1000) (w : World) (ha : I64 a) (hb : I64 b) : Calls Tryd.prog 81 #[.int .i64 a, .int .i64 b, .int .u64 l] w fun e w' => e = .returned (.bool (recB a b l)) ∧ w = w' := by
  by_cases h : a ≤ b
  · have h1 : decide (a ≤ b) = true := decide_eq_true h
    have HS := Lib.hid (u64sub h ha hb)
    go_enter Tryd.func81, Tryd.ntmps81
    go_wp2
    go_ret
    exact ⟨ret_bool (by rw [HS.out]; simp [recB, h]), rfl⟩
  · have h1 : decide (a ≤ b) = false := decide_eq_false h
    go_enter Tryd.func81, Tryd.ntmps81
    go_wp2
    go_ret
    exact ⟨ret_bool (by unfold recB; rw [h1]; rfl), rfl⟩
theorem snew_any (a b : Int) (w : World) : Calls Tryd.prog 55 #[.int .i64 a, .int .i64 b] w fun e w' => e = .returned (.agg #[.int .i64 a, .int .i64 0, .int .i64 0, .int .i64 b]) ∧ Below w.heap.size w w' := by
  obtain ⟨w1, hw⟩ : ∃ w1, w1 = (w.alloc (.cells #[.int .i64 0, .int .i64 0, .int .i64 0, .int .i64 0] 31)) := ⟨_, rfl⟩
  have HE0 : Hid (Ext w w1) := by rw [hw]; exact eal (Ext.refl w) _
  have HR : Hid (Own w1 (w.heap.size) [.int .i64 0, .int .i64 0, .int .i64 0, .int .i64 0]) := by rw [hw]; exact Own.new (w := w) (cs := #[.int .i64 0, .int .i64 0, .int .i64 0, .int .i64 0]) (t := 31) (by simp)
  go_enter Tryd.func55, Tryd.ntmps55
  go_upto_region 1 with (fail)
  rw [← hw]
  clear hw
  go_wp2_with (first | (refine wp_stN 31 [.int .i64 a, .int .i64 0, .int .i64 0, .int .i64 b] [.int .i64 a, .int .i64 0, .int .i64 0, .int .i64 b] rfl rfl rfl (HR.out) rfl szSes rfl (by show (0 + 4 : Nat) ≤ 4; decide) rfl ?_; intro w2 H2))
  refine bodyPost_ret (res_c (by rfl) (by rfl) (H2.out.1).cells Tryd.underlying31 szSes) rfl ⟨rfl, eonly HE0.out H2.out.2 (Nat.le_refl _)⟩
theorem rsnew_any (a b : Int) (w : World) : Calls Tryd.prog 56 #[.int .i64 a, .int .i64 b] w fun e w' => e = .returned (.agg #[.int .i64 a, .int .i64 0, .int .i64 0, .int .i64 b]) ∧ Below w.heap.size w w' := by
  obtain ⟨w1, hw⟩ : ∃ w1, w1 = (w.alloc (.cells #[.int .i64 0, .int .i64 0, .int .i64 0, .int .i64 0] 31)) := ⟨_, rfl⟩
  have HE0 : Hid (Ext w w1) := by rw [hw]; exact eal (Ext.refl w) _
  have HR : Hid (Own w1 (w.heap.size) [.int .i64 0, .int .i64 0, .int .i64 0, .int .i64 0]) := by rw [hw]; exact Own.new (w := w) (cs := #[.int .i64 0, .int .i64 0, .int .i64 0, .int .i64 0]) (t := 31) (by simp)
  go_enter Tryd.func56, Tryd.ntmps56
  go_upto_region 1 with (fail)
  rw [← hw]
  clear hw
  go_wp2_with (first | (refine wp_stN 31 [.int .i64 a, .int .i64 0, .int .i64 0, .int .i64 b] [.int .i64 a, .int .i64 0, .int .i64 0, .int .i64 b] rfl rfl rfl (HR.out) rfl szSes rfl (by show (0 + 4 : Nat) ≤ 4; decide) rfl ?_; intro w2 H2))
  refine bodyPost_ret (res_c (by rfl) (by rfl) (H2.out.1).cells Tryd.underlying31 szSes) rfl ⟨rfl, eonly HE0.out H2.out.2 (Nat.le_refl _)⟩
theorem salive_any (p o i h now : Int) (w : World) (ha : I64 h) (hb : I64 now) : Calls Tryd.prog 40 #[.agg #[.int .i64 p, .int .i64 o, .int .i64 i, .int .i64 h], .int .i64 now] w fun e w' => e = .returned (.bool (recB h now 6)) ∧ Below w.heap.size w w' := by
  go_enter Tryd.func40, Tryd.ntmps40
  go_wp2_with fail
  refine (recent_any h now 6 (by omega) _ ha hb).mono ?_
  rintro e w' ⟨rfl, rfl⟩
  go_wp2
  go_ret
  exact ⟨rfl, eal (Ext.refl _) _⟩
theorem iwhole_any (k : Bool) (s now : Int) (w : World) (ha : I64 s) (hb : I64 now) : Calls Tryd.prog 51 #[.agg #[.bool k, .int .i64 s], .int .i64 now] w fun e w' => e = .returned (.bool (k && recB s now 5)) ∧ Below w.heap.size w w' := by
  cases k
  · go_enter Tryd.func51, Tryd.ntmps51
    go_wp2
    go_ret
    exact ⟨rfl, eal (Ext.refl _) _⟩
  · go_enter Tryd.func51, Tryd.ntmps51
    go_wp2_with fail
    refine (ifresh_any s now 5 (by omega) _ ha hb).mono ?_
    rintro e w' ⟨rfl, rfl⟩
    go_wp2
    go_ret
    exact ⟨rfl, eal (Ext.refl _) _⟩
theorem riwhole_any (k : Bool) (s now : Int) (w : World) (ha : I64 s) (hb : I64 now) : Calls Tryd.prog 53 #[.agg #[.bool k, .int .i64 s], .int .i64 now] w fun e w' => e = .returned (.bool (k && recB s now 5)) ∧ Below w.heap.size w w' := by
  cases k
  · go_enter Tryd.func53, Tryd.ntmps53
    go_wp2
    go_ret
    exact ⟨rfl, eal (Ext.refl _) _⟩
  · by_cases h : s ≤ now
    · have h1 : decide (s ≤ now) = true := decide_eq_true h
      have HS := Lib.hid (u64sub h ha hb)
      go_enter Tryd.func53, Tryd.ntmps53
      go_wp2
      go_ret
      exact ⟨ret_bool (by rw [HS.out]; simp [recB, h]), eal (Ext.refl _) _⟩
    · have h1 : decide (s ≤ now) = false := decide_eq_false h
      go_enter Tryd.func53, Tryd.ntmps53
      go_wp2
      go_ret
      exact ⟨ret_bool (by unfold recB; rw [h1]; rfl), eal (Ext.refl _) _⟩
/-! ### Modes -/
theorem mnext_any (m e : Int) (w : World) (h : Tabs w) : Calls Tryd.prog 50 #[.int .i64 m, .int .i64 e] w fun e' w' => e' = .returned (.tuple #[.int .i64 (nxV m e), .bool (nxV m e != 0)]) ∧ w = w' := by
  have HT := Lib.hid h
  clear h
  by_cases h1 : m < 1
  · have HV : Hid (nxV m e = 0) := by show _ = _; unfold nxV; rw [if_pos (.inl h1)]
    have q1 : decide (m < 1) = true := decide_eq_true h1
    clear h1
    go_enter Tryd.func50, Tryd.ntmps50
    go_wp2
    go_ret2
    exact ⟨by rw [HV.out]; rfl, rfl⟩
  · by_cases h2 : 7 < m
    · have HV : Hid (nxV m e = 0) := by show _ = _; unfold nxV; rw [if_pos (.inr h2)]
      have q1 : decide (m < 1) = false := decide_eq_false h1
      have q2 : decide (7 < m) = true := decide_eq_true h2
      clear h1 h2
      go_enter Tryd.func50, Tryd.ntmps50
      go_wp2
      go_ret2
      exact ⟨by rw [HV.out]; rfl, rfl⟩
    · by_cases h3 : e < 1
      · have HV : Hid (nxV m e = 0) := by show _ = _; unfold nxV; rw [if_neg (by omega), if_neg (by omega), if_neg (by omega), if_neg (by omega), if_neg (by omega), if_neg (by omega), if_neg (by omega), if_neg (by omega)]
        have q1 : decide (m < 1) = false := decide_eq_false h1
        have q2 : decide (7 < m) = false := decide_eq_false h2
        have q3 : decide (e < 1) = true := decide_eq_true h3
        clear h1 h2 h3
        go_enter Tryd.func50, Tryd.ntmps50
        go_wp2
        go_ret2
        exact ⟨by rw [HV.out]; rfl, rfl⟩
      · by_cases h4 : 7 < e
        · have HV : Hid (nxV m e = 0) := by show _ = _; unfold nxV; rw [if_neg (by omega), if_neg (by omega), if_neg (by omega), if_neg (by omega), if_neg (by omega), if_neg (by omega), if_neg (by omega), if_neg (by omega)]
          have q1 : decide (m < 1) = false := decide_eq_false h1
          have q2 : decide (7 < m) = false := decide_eq_false h2
          have q3 : decide (e < 1) = false := decide_eq_false h3
          have q4 : decide (7 < e) = true := decide_eq_true h4
          clear h1 h2 h3 h4
          go_enter Tryd.func50, Tryd.ntmps50
          go_wp2
          go_ret2
          exact ⟨by rw [HV.out]; rfl, rfl⟩
        · obtain ⟨M, rfl⟩ : ∃ M : Nat, m = M := ⟨m.toNat, by omega⟩
          obtain ⟨E, rfl⟩ : ∃ E : Nat, e = E := ⟨e.toNat, by omega⟩
          have q1 : decide ((M : Int) < 1) = false := decide_eq_false h1
          have q2 : decide (7 < (M : Int)) = false := decide_eq_false h2
          have q3 : decide ((E : Int) < 1) = false := decide_eq_false h3
          have q4 : decide (7 < (E : Int)) = false := decide_eq_false h4
          have hM : M < 8 := by omega
          have hE : E < 8 := by omega
          have hc := HT.out.tr M E hM hE
          have hz := HT.out.lt
          clear h1 h2 h3 h4
          generalize hv : nxV (M : Int) (E : Int) = v at hc ⊢
          clear hv
          go_enter Tryd.func50, Tryd.ntmps50
          go_wp2
          go_ret2
          exact ⟨rfl, rfl⟩
theorem r35authority_any (m : Int) (h1 : 1 ≤ m) (h2 : m ≤ 7) (w : World) : Calls Tryd.prog 94 #[.int .i64 m] w fun e w' => e = .returned (.int .i64 (nxV m 1)) ∧ w = w' := by
  have key : m = 1 ∨ m = 2 ∨ m = 3 ∨ m = 4 ∨ m = 5 ∨ m = 6 ∨ m = 7 := by omega
  clear h1 h2
  rcases key with rfl | rfl | rfl | rfl | rfl | rfl | rfl
  all_goals
    go_enter Tryd.func94, Tryd.ntmps94
    go_wp2
    go_ret
    exact ⟨rfl, rfl⟩
theorem r35stop_any (m : Int) (h1 : 1 ≤ m) (h2 : m ≤ 7) (w : World) : Calls Tryd.prog 95 #[.int .i64 m] w fun e w' => e = .returned (.int .i64 (nxV m 2)) ∧ w = w' := by
  have key : m = 1 ∨ m = 2 ∨ m = 3 ∨ m = 4 ∨ m = 5 ∨ m = 6 ∨ m = 7 := by omega
  clear h1 h2
  rcases key with rfl | rfl | rfl | rfl | rfl | rfl | rfl
  all_goals
    go_enter Tryd.func95, Tryd.ntmps95
    go_wp2
    go_ret
    exact ⟨rfl, rfl⟩
theorem r35stand_any (m : Int) (h1 : 1 ≤ m) (h2 : m ≤ 7) (w : World) : Calls Tryd.prog 96 #[.int .i64 m] w fun e w' => e = .returned (.int .i64 (nxV m 3)) ∧ w = w' := by
  have key : m = 1 ∨ m = 2 ∨ m = 3 ∨ m = 4 ∨ m = 5 ∨ m = 6 ∨ m = 7 := by omega
  clear h1 h2
  rcases key with rfl | rfl | rfl | rfl | rfl | rfl | rfl
  all_goals
    go_enter Tryd.func96, Tryd.ntmps96
    go_wp2
    go_ret
    exact ⟨rfl, rfl⟩
theorem r35staff_any (m : Int) (h1 : 1 ≤ m) (h2 : m ≤ 7) (w : World) : Calls Tryd.prog 97 #[.int .i64 m] w fun e w' => e = .returned (.int .i64 (nxV m 4)) ∧ w = w' := by
  have key : m = 1 ∨ m = 2 ∨ m = 3 ∨ m = 4 ∨ m = 5 ∨ m = 6 ∨ m = 7 := by omega
  clear h1 h2
  rcases key with rfl | rfl | rfl | rfl | rfl | rfl | rfl
  all_goals
    go_enter Tryd.func97, Tryd.ntmps97
    go_wp2
    go_ret
    exact ⟨rfl, rfl⟩
theorem r35shunt_any (m : Int) (h1 : 1 ≤ m) (h2 : m ≤ 7) (w : World) : Calls Tryd.prog 98 #[.int .i64 m] w fun e w' => e = .returned (.int .i64 (nxV m 5)) ∧ w = w' := by
  have key : m = 1 ∨ m = 2 ∨ m = 3 ∨ m = 4 ∨ m = 5 ∨ m = 6 ∨ m = 7 := by omega
  clear h1 h2
  rcases key with rfl | rfl | rfl | rfl | rfl | rfl | rfl
  all_goals
    go_enter Tryd.func98, Tryd.ntmps98
    go_wp2
    go_ret
    exact ⟨rfl, rfl⟩
theorem r35fallback_any (m : Int) (h1 : 1 ≤ m) (h2 : m ≤ 7) (w : World) : Calls Tryd.prog 99 #[.int .i64 m] w fun e w' => e = .returned (.int .i64 (nxV m 6)) ∧ w = w' := by
  have key : m = 1 ∨ m = 2 ∨ m = 3 ∨ m = 4 ∨ m = 5 ∨ m = 6 ∨ m = 7 := by omega
  clear h1 h2
  rcases key with rfl | rfl | rfl | rfl | rfl | rfl | rfl
  all_goals
    go_enter Tryd.func99, Tryd.ntmps99
    go_wp2
    go_ret
    exact ⟨rfl, rfl⟩
theorem r35end_any (m : Int) (h1 : 1 ≤ m) (h2 : m ≤ 7) (w : World) : Calls Tryd.prog 100 #[.int .i64 m] w fun e w' => e = .returned (.int .i64 (nxV m 7)) ∧ w = w' := by
  have key : m = 1 ∨ m = 2 ∨ m = 3 ∨ m = 4 ∨ m = 5 ∨ m = 6 ∨ m = 7 := by omega
  clear h1 h2
  rcases key with rfl | rfl | rfl | rfl | rfl | rfl | rfl
  all_goals
    go_enter Tryd.func100, Tryd.ntmps100
    go_wp2
    go_ret
    exact ⟨rfl, rfl⟩
theorem rnext0_any (m e : Int) (w : World) : Calls Tryd.prog 74 #[.int .i64 m, .int .i64 e] w fun e' w' => e' = .returned (.int .i64 (nxV m e)) ∧ w = w' := by
  by_cases h1 : m < 1
  · have HV : Hid (nxV m e = 0) := by show _ = _; unfold nxV; rw [if_pos (.inl h1)]
    have q1 : decide (m < 1) = true := decide_eq_true h1
    clear h1
    go_enter Tryd.func74, Tryd.ntmps74
    go_wp2
    go_ret
    exact ⟨ret_int HV.out.symm, rfl⟩
  · by_cases h2 : 7 < m
    · have HV : Hid (nxV m e = 0) := by show _ = _; unfold nxV; rw [if_pos (.inr h2)]
      have q1 : decide (m < 1) = false := decide_eq_false h1
      have q2 : decide (7 < m) = true := decide_eq_true h2
      clear h1 h2
      go_enter Tryd.func74, Tryd.ntmps74
      go_wp2
      go_ret
      exact ⟨ret_int HV.out.symm, rfl⟩
    · have q1 : decide (m < 1) = false := decide_eq_false h1
      have q2 : decide (7 < m) = false := decide_eq_false h2
      have key : e = 1 ∨ e = 2 ∨ e = 3 ∨ e = 4 ∨ e = 5 ∨ e = 6 ∨ e = 7 ∨ (e ≠ 1 ∧ e ≠ 2 ∧ e ≠ 3 ∧ e ≠ 4 ∧ e ≠ 5 ∧ e ≠ 6 ∧ e ≠ 7) := by omega
      rcases key with rfl | rfl | rfl | rfl | rfl | rfl | rfl | hne
      · have HC := Lib.hid (fun x => r35authority_any m (by omega) (by omega) x)
        generalize nxV m 1 = v at HC ⊢
        clear h1 h2
        go_enter Tryd.func74, Tryd.ntmps74
        go_wp2_with fail
        refine (HC.out _).mono ?_
        rintro e w' ⟨rfl, rfl⟩
        go_wp2
        go_ret
        exact ⟨rfl, rfl⟩
      · have HC := Lib.hid (fun x => r35stop_any m (by omega) (by omega) x)
        generalize nxV m 2 = v at HC ⊢
        clear h1 h2
        go_enter Tryd.func74, Tryd.ntmps74
        go_wp2_with fail
        refine (HC.out _).mono ?_
        rintro e w' ⟨rfl, rfl⟩
        go_wp2
        go_ret
        exact ⟨rfl, rfl⟩
      · have HC := Lib.hid (fun x => r35stand_any m (by omega) (by omega) x)
        generalize nxV m 3 = v at HC ⊢
        clear h1 h2
        go_enter Tryd.func74, Tryd.ntmps74
        go_wp2_with fail
        refine (HC.out _).mono ?_
        rintro e w' ⟨rfl, rfl⟩
        go_wp2
        go_ret
        exact ⟨rfl, rfl⟩
      · have HC := Lib.hid (fun x => r35staff_any m (by omega) (by omega) x)
        generalize nxV m 4 = v at HC ⊢
        clear h1 h2
        go_enter Tryd.func74, Tryd.ntmps74
        go_wp2_with fail
        refine (HC.out _).mono ?_
        rintro e w' ⟨rfl, rfl⟩
        go_wp2
        go_ret
        exact ⟨rfl, rfl⟩
      · have HC := Lib.hid (fun x => r35shunt_any m (by omega) (by omega) x)
        generalize nxV m 5 = v at HC ⊢
        clear h1 h2
        go_enter Tryd.func74, Tryd.ntmps74
        go_wp2_with fail
        refine (HC.out _).mono ?_
        rintro e w' ⟨rfl, rfl⟩
        go_wp2
        go_ret
        exact ⟨rfl, rfl⟩
      · have HC := Lib.hid (fun x => r35fallback_any m (by omega) (by omega) x)
        generalize nxV m 6 = v at HC ⊢
        clear h1 h2
        go_enter Tryd.func74, Tryd.ntmps74
        go_wp2_with fail
        refine (HC.out _).mono ?_
        rintro e w' ⟨rfl, rfl⟩
        go_wp2
        go_ret
        exact ⟨rfl, rfl⟩
      · have HC := Lib.hid (fun x => r35end_any m (by omega) (by omega) x)
        generalize nxV m 7 = v at HC ⊢
        clear h1 h2
        go_enter Tryd.func74, Tryd.ntmps74
        go_wp2_with fail
        refine (HC.out _).mono ?_
        rintro e w' ⟨rfl, rfl⟩
        go_wp2
        go_ret
        exact ⟨rfl, rfl⟩
      · obtain ⟨n1, n2, n3, n4, n5, n6, n7⟩ := hne
        have HV : Hid (nxV m e = 0) := by show _ = _; unfold nxV; rw [if_neg (by omega), if_neg n1, if_neg n2, if_neg n3, if_neg n4, if_neg n5, if_neg n6, if_neg n7]
        have b1 : (e == 1) = false := by simpa using n1
        have b2 : (e == 2) = false := by simpa using n2
        have b3 : (e == 3) = false := by simpa using n3
        have b4 : (e == 4) = false := by simpa using n4
        have b5 : (e == 5) = false := by simpa using n5
        have b6 : (e == 6) = false := by simpa using n6
        have b7 : (e == 7) = false := by simpa using n7
        clear h1 h2 n1 n2 n3 n4 n5 n6 n7
        go_enter Tryd.func74, Tryd.ntmps74
        go_wp2
        go_ret
        exact ⟨ret_int HV.out.symm, rfl⟩
theorem rnext_any (m e : Int) (w : World) : Calls Tryd.prog 38 #[.int .i64 m, .int .i64 e] w fun e' w' => e' = .returned (.tuple #[.int .i64 (nxV m e), .bool (nxV m e != 0)]) ∧ w = w' := by
  have HC := Lib.hid (fun x => rnext0_any m e x)
  generalize nxV m e = v at HC ⊢
  go_enter Tryd.func38, Tryd.ntmps38
  go_wp2_with fail
  refine (HC.out _).mono ?_
  rintro e w' ⟨rfl, rfl⟩
  go_wp2
  go_ret2
  exact ⟨rfl, rfl⟩
end Go.Proofs.YtbgmknkmfhpgeaaDoor
