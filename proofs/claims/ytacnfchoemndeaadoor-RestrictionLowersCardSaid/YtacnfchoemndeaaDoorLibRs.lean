/- Contracts of slices.Grow, slices.Concat and slices.Clone at one element type. -/
import Derived.Test.YtacnfchoemndeaaDoorTLay
import Derived.Test.YtacnfchoemndeaaDoorExt
import Derived.Deep.LoopGhost
import Derived.Lib.AppendZeros
import Derived.WalkSpells
set_option linter.unusedVariables false
set_option maxRecDepth 100000
set_option linter.unusedSimpArgs false
namespace Go.Proofs.YtacnfchoemndeaaDoor
open Go.ChangeShapes Go.WideShapes Go.ChangeAt Go.RowKit
open Sg

theorem inf_Rs : (Tryd.prog.info? 31).map (fun i => (i.zero, i.size, i.bytes)) = some (some (.agg #[.int .i64 0, .int .i64 0, .int .i64 0, .int .i64 0, .int .i64 0, .bool false]), 6, 48) := by kernel_rfl
/-- Grow of nil: room for n elements. -/
theorem grow_Rs (n : Nat) (w : World) (hn : n ≤ 1000000) : Calls Tryd.prog 45 #[.slice none 0 0, .int .i64 n] w fun e w' => ∃ v, e = .returned v ∧ OwnL w' w.heap.size 31 6 Rsc v ([] : List Rst) ∧ Below w.heap.size w w' := by
  obtain ⟨i0, hi, hz0, hz1, hz2⟩ := info_parts inf_Rs
  by_cases h0 : 0 < n
  · have hr := Lib.run_append_nil_zeros (P := Tryd.prog) w 29 3 29 31 i0 _ .i64 .i64 Tryd.underlying29 Tryd.underlying3 hi hz0 n h0 (by rw [hz1]; decide) (by omega) (by rw [hz2]; omega)
    have hge := grownCap_ge w n 0 31
    have hle : grownCap w n 0 31 ≤ maxLen := grownCap_le_maxLen w n 0 31 (by unfold maxLen; omega)
    obtain ⟨c, hc⟩ : ∃ c, c = grownCap w n 0 31 := ⟨_, rfl⟩
    rw [← hc] at hr hge hle
    obtain ⟨zs, hzs⟩ : ∃ zs, zs = Builtin.zeroCells (Value.cells (.agg #[.int .i64 0, .int .i64 0, .int .i64 0, .int .i64 0, .int .i64 0, .bool false])) n ++ Builtin.zeroCells (Value.cells (.agg #[.int .i64 0, .int .i64 0, .int .i64 0, .int .i64 0, .int .i64 0, .bool false])) (c - n) := ⟨_, rfl⟩
    rw [← hzs] at hr
    have hsz : zs.size = c * 6 := by
      have e : (Value.cells (.agg #[.int .i64 0, .int .i64 0, .int .i64 0, .int .i64 0, .int .i64 0, .bool false])).size = 6 := by simp [Value.cells]
      rw [hzs, Array.size_append, size_zeroCells, size_zeroCells, e, ← Nat.add_mul]; congr 1; omega
    have HO : Hid (OwnL (w.drew.alloc (.cells zs 31)) w.heap.size 31 6 Rsc (.slice (some ⟨w.heap.size, 0, none⟩) 0 c) ([] : List Rst)) :=
      ⟨by simp, .inr ⟨w.heap.size, c, zs, rfl, Nat.le_refl _, heap_alloc_new w.drew _, Nat.zero_le _, hle, hsz, by simp⟩⟩
    have HRun := Lib.hid hr
    unfold maxLen at hle
    clear hc hzs hsz hr
    go_enter Tryd.func45, Tryd.ntmps45
    go_wp2_with (at_builtin; refine Lib.wpList_append_run w rfl _ _ _ _ rfl _ _ (by simp [go_sem]) (by simp [go_sem]) _ _ HRun.out ?_)
    go_ret
    exact ⟨_, rfl, HO.out, (Below.refl _ _).drew.alloc (by simp) _⟩
  · obtain rfl : n = 0 := by omega
    go_enter Tryd.func45, Tryd.ntmps45
    go_wp2
    go_ret
    exact ⟨_, rfl, OwnL.nil, Below.refl _ _⟩

structure SrcRs where
  A : Option Addr
  xs : List Rst
  c : Nat
def SrcRs.val (s : SrcRs) : Value := .slice s.A s.xs.length s.c
def SrcRs.all (L : List SrcRs) : List Rst := L.flatMap SrcRs.xs
theorem SrcRs.all_take {L : List SrcRs} {k : Nat} {s : SrcRs} (h : L[k]? = some s) : SrcRs.all (L.take (k + 1)) = SrcRs.all (L.take k) ++ s.xs := by
  obtain ⟨hl, rfl⟩ := List.getElem?_eq_some_iff.1 h
  unfold SrcRs.all
  rw [List.take_succ_eq_append_getElem hl, List.flatMap_append]
  simp
theorem SrcRs.all_le (L : List SrcRs) (k : Nat) : (SrcRs.all (L.take k)).length ≤ (SrcRs.all L).length := by
  have e : SrcRs.all L = SrcRs.all (L.take k) ++ SrcRs.all (L.drop k) := by unfold SrcRs.all; rw [← List.flatMap_append, List.take_append_drop]
  rw [e, List.length_append]; omega
set_option maxHeartbeats 2000000 in
/-- Concat: the lists one behind the other. -/
theorem concat_Rs (L : List SrcRs) (B cp : Nat) (w : World) (hB : CellsAt w B (L.map SrcRs.val)) (hR : ∀ (i : Nat) s, L[i]? = some s → Rd w s.A 6 Rsc s.xs) (hl : L.length ≤ 1000) (hs : (SrcRs.all L).length ≤ 1000000) :
    Calls Tryd.prog 30 #[.slice (some ⟨B, 0, none⟩) L.length cp] w fun e w' => ∃ v, e = .returned v ∧ OwnL w' w.heap.size 31 6 Rsc v (SrcRs.all L) ∧ Below w.heap.size w w' := by
  have HB := Lib.hid hB
  have HR := Lib.hid hR
  obtain ⟨i0, hi, hz0, hz1, hz2⟩ := info_parts inf_Rs
  clear hB hR
  go_enter Tryd.func30, Tryd.ntmps30
  go_wp2
  go_loopg [3, 11] L.length (fun g sz i wr => ∃ k : Nat, i = .int .i64 k ∧ k ≤ L.length ∧ g = L.length - k ∧ w = wr ∧ sz = .int .i64 ((SrcRs.all (L.take k)).length : Nat))
  case atStart => exact ⟨0, rfl, by omega, rfl, rfl, rfl⟩
  case round =>
    obtain ⟨k, rfl, hk, hg, rfl, rfl⟩ := hrel
    have HG := Lib.hid hg
    clear hg
    by_cases hlt : k < L.length
    · obtain ⟨s, hs1⟩ : ∃ s, L[k]? = some s := ⟨_, List.getElem?_eq_getElem hlt⟩
      have cb := HB.out.2 k s.val (by simp [hs1])
      have cz := HB.out.1
      have ha := congrArg List.length (SrcRs.all_take hs1)
      rw [List.length_append] at ha
      have hle := SrcRs.all_le L (k + 1)
      have HA := Lib.hid ha
      have hle2 : (SrcRs.all (L.take k)).length + s.xs.length ≤ 1000000 := by omega
      unfold SrcRs.val at cb
      clear hs1 ha hle
      go_wp2
      go_roundg (L.length - (k + 1))
      case measure => have := HG.out; omega
      case rel => exact ⟨k + 1, by go_num, by omega, rfl, rfl, by rw [HA.out]; go_num⟩
    · have HA : Hid (SrcRs.all (L.take k) = SrcRs.all L) := by show _ = _; rw [List.take_of_length_le (by omega)]
      have hsz := SrcRs.all_le L k
      go_wp2_with fail
      refine (grow_Rs _ w (by omega)).mono ?_
      rintro e w1 ⟨v, rfl, ho, hb⟩
      have HO := Lib.hid ho
      have HE := Lib.hid hb
      clear ho hb
      go_wp2
      go_loopg [6, 27] L.length (fun g u i wj => ∃ j : Nat, i = .int .i64 j ∧ j ≤ L.length ∧ g = L.length - j ∧ Hid (Ext w wj ∧ OwnL wj w.heap.size 31 6 Rsc u (SrcRs.all (L.take j))))
      case atStart => exact ⟨0, rfl, by omega, rfl, HE.out, HO.out⟩
      case round =>
        obtain ⟨j, rfl, hj, hg2, H2⟩ := hrel
        have HG2 := Lib.hid hg2
        clear hg2
        by_cases hlt2 : j < L.length
        · obtain ⟨s, hs1⟩ : ∃ s, L[j]? = some s := ⟨_, List.getElem?_eq_getElem hlt2⟩
          have CB := HB.out.keep H2.out.1
          have cb := CB.2 j s.val (by simp [hs1])
          have cz := CB.1
          have HS := Lib.hid ((HR.out j s hs1).keep H2.out.1)
          have HA2 := Lib.hid (SrcRs.all_take hs1)
          have ha := congrArg List.length (SrcRs.all_take hs1)
          rw [List.length_append] at ha
          have hle := SrcRs.all_le L (j + 1)
          have hle2 : (SrcRs.all (L.take j)).length + s.xs.length ≤ 1000000 := by omega
          unfold SrcRs.val at cb
          clear CB hs1 ha hle
          go_wp2_with (at_builtin
                       refine wp_appL (u := w) Rsc_len Rsc_one Tryd.underlying29 hi hz0 hz1 hz2 rfl (by decide) rfl rfl rfl H2.out.2 H2.out.1 s.xs s.A s.c (by simp [go_sem]) HS.out (by omega) (by unfold maxLen; omega) ?_
                       intro v1 w1 H1)
          go_roundg (L.length - (j + 1))
          case measure => have := HG2.out; omega
          case rel => exact ⟨j + 1, by go_num, by omega, rfl, H1.out.2.1, by rw [HA2.out]; exact H1.out.1⟩
        · have HA2 : Hid (SrcRs.all (L.take j) = SrcRs.all L) := by show _ = _; rw [List.take_of_length_le (by omega)]
          go_wp2
          go_ret
          exact ⟨_, rfl, by rw [← HA2.out]; exact H2.out.2, H2.out.1⟩

/-- Clone: the same list, in a block of the call's own. -/
theorem clone_Rs (A : Option Addr) (xs : List Rst) (c : Nat) (w : World) (hl : xs.length ≤ 1000000) (hr : Rd w A 6 Rsc xs) :
    Calls Tryd.prog 32 #[.slice A xs.length c] w fun e w' => ∃ v, e = .returned v ∧ OwnL w' w.heap.size 31 6 Rsc v xs ∧ Below w.heap.size w w' := by
  obtain ⟨i0, hi, hz0, hz1, hz2⟩ := info_parts inf_Rs
  have HR := Lib.hid hr
  clear hr
  cases A with
  | none =>
    obtain rfl : xs = [] := by
      cases xs with
      | nil => rfl
      | cons x r => obtain ⟨b, off, e, _⟩ := HR.out (by simp); cases e
    have he := fun n c n2 c2 => Lib.run_eql_slice_nil (P := Tryd.prog) w 29 31 none n c n2 c2 Tryd.underlying29
    go_enter Tryd.func32, Tryd.ntmps32
    go_wp2
    go_ret
    exact ⟨_, rfl, OwnL.nil, Below.refl _ _⟩
  | some ad =>
    have he := fun n c n2 c2 => Lib.run_eql_slice_nil (P := Tryd.prog) w 29 31 (some ad) n c n2 c2 Tryd.underlying29
    have HO : Hid (OwnL (w.alloc (.cells #[] 31)) w.heap.size 31 6 Rsc (.slice (some ⟨w.heap.size, 0, none⟩) 0 0) ([] : List Rst)) := World.ownsRow_lit w #[] 0 (Nat.le_refl _) (by simp) (by simp)
    go_enter Tryd.func32, Tryd.ntmps32
    go_wp2_with (at_builtin
                 refine wp_appL (u := w) Rsc_len Rsc_one Tryd.underlying29 hi hz0 hz1 hz2 rfl (by decide) rfl rfl rfl HO.out (eal (Ext.refl w) _) xs (some ad) c (by simp [go_sem]) (HR.out.keep (eal (Ext.refl w) _)) (by simp; omega) (by simp; unfold maxLen; omega) ?_
                 intro v1 w1 H1
                 rw [List.nil_append] at H1)
    go_ret
    exact ⟨_, rfl, H1.out.1, H1.out.2.1⟩

end Go.Proofs.YtacnfchoemndeaaDoor
