/- Contracts of slices.Grow, slices.Concat and slices.Clone at one element type. -/
import Derived.Test.YtoodehilgogomaaWProfE
import Derived.Test.YtoodehilgogomaaExt
import Derived.Deep.LoopGhost
import Derived.Lib.AppendZeros
import Derived.WalkSpells
set_option linter.unusedVariables false
set_option linter.unusedSimpArgs false
namespace Go.Proofs.Ytoodehilgogomaa
open Go.ChangeShapes Go.WideShapes Go.ChangeAt Go.RowKit
open Sg

theorem inf_Seg : (Try.prog.info? 25).map (fun i => (i.zero, i.size, i.bytes)) = some (some (.agg #[.int .i64 0, .int .i64 0, .int .i64 0, .int .i64 0]), 4, 32) := by kernel_rfl
/-- Grow of nil: room for n elements. -/
theorem grow_Seg (n : Nat) (w : World) (hn : n ≤ 1000000) : Calls Try.prog 33 #[.slice none 0 0, .int .i64 n] w fun e w' => ∃ v, e = .returned v ∧ OwnL w' w.heap.size 25 4 Sgc v ([] : List Sgm) ∧ Below w.heap.size w w' := by
  obtain ⟨i0, hi, hz0, hz1, hz2⟩ := info_parts inf_Seg
  by_cases h0 : 0 < n
  · have hr := Lib.run_append_nil_zeros (P := Try.prog) w 22 3 22 25 i0 _ .i64 .i64 Try.underlying22 Try.underlying3 hi hz0 n h0 (by rw [hz1]; decide) (by omega) (by rw [hz2]; omega)
    have hge := grownCap_ge w n 0 25
    have hle : grownCap w n 0 25 ≤ maxLen := grownCap_le_maxLen w n 0 25 (by unfold maxLen; omega)
    obtain ⟨c, hc⟩ : ∃ c, c = grownCap w n 0 25 := ⟨_, rfl⟩
    rw [← hc] at hr hge hle
    obtain ⟨zs, hzs⟩ : ∃ zs, zs = Builtin.zeroCells (Value.cells (.agg #[.int .i64 0, .int .i64 0, .int .i64 0, .int .i64 0])) n ++ Builtin.zeroCells (Value.cells (.agg #[.int .i64 0, .int .i64 0, .int .i64 0, .int .i64 0])) (c - n) := ⟨_, rfl⟩
    rw [← hzs] at hr
    have hsz : zs.size = c * 4 := by
      have e : (Value.cells (.agg #[.int .i64 0, .int .i64 0, .int .i64 0, .int .i64 0])).size = 4 := by simp [Value.cells]
      rw [hzs, Array.size_append, size_zeroCells, size_zeroCells, e, ← Nat.add_mul]; congr 1; omega
    have HO : Hid (OwnL (w.drew.alloc (.cells zs 25)) w.heap.size 25 4 Sgc (.slice (some ⟨w.heap.size, 0, none⟩) 0 c) ([] : List Sgm)) :=
      ⟨by simp, .inr ⟨w.heap.size, c, zs, rfl, Nat.le_refl _, heap_alloc_new w.drew _, Nat.zero_le _, hle, hsz, by simp⟩⟩
    have HRun := Lib.hid hr
    unfold maxLen at hle
    clear hc hzs hsz hr
    go_enter Try.func33, Try.ntmps33
    go_wp2_with (at_builtin; refine Lib.wpList_append_run w rfl _ _ _ _ rfl _ _ (by simp [go_sem]) (by simp [go_sem]) _ _ HRun.out ?_)
    go_ret
    exact ⟨_, rfl, HO.out, (Below.refl _ _).drew.alloc (by simp) _⟩
  · obtain rfl : n = 0 := by omega
    go_enter Try.func33, Try.ntmps33
    go_wp2
    go_ret
    exact ⟨_, rfl, OwnL.nil, Below.refl _ _⟩

structure SrcSeg where
  A : Option Addr
  xs : List Sgm
  c : Nat
def SrcSeg.val (s : SrcSeg) : Value := .slice s.A s.xs.length s.c
def SrcSeg.all (L : List SrcSeg) : List Sgm := L.flatMap SrcSeg.xs
theorem SrcSeg.all_take {L : List SrcSeg} {k : Nat} {s : SrcSeg} (h : L[k]? = some s) : SrcSeg.all (L.take (k + 1)) = SrcSeg.all (L.take k) ++ s.xs := by
  obtain ⟨hl, rfl⟩ := List.getElem?_eq_some_iff.1 h
  unfold SrcSeg.all
  rw [List.take_succ_eq_append_getElem hl, List.flatMap_append]
  simp
theorem SrcSeg.all_le (L : List SrcSeg) (k : Nat) : (SrcSeg.all (L.take k)).length ≤ (SrcSeg.all L).length := by
  have e : SrcSeg.all L = SrcSeg.all (L.take k) ++ SrcSeg.all (L.drop k) := by unfold SrcSeg.all; rw [← List.flatMap_append, List.take_append_drop]
  rw [e, List.length_append]; omega
set_option maxHeartbeats 2000000 in
/-- Concat: the lists one behind the other. -/
theorem concat_Seg (L : List SrcSeg) (B cp : Nat) (w : World) (hB : CellsAt w B (L.map SrcSeg.val)) (hR : ∀ (i : Nat) s, L[i]? = some s → Rd w s.A 4 Sgc s.xs) (hl : L.length ≤ 1000) (hs : (SrcSeg.all L).length ≤ 1000000) :
    Calls Try.prog 32 #[.slice (some ⟨B, 0, none⟩) L.length cp] w fun e w' => ∃ v, e = .returned v ∧ OwnL w' w.heap.size 25 4 Sgc v (SrcSeg.all L) ∧ Below w.heap.size w w' := by
  have HB := Lib.hid hB
  have HR := Lib.hid hR
  obtain ⟨i0, hi, hz0, hz1, hz2⟩ := info_parts inf_Seg
  clear hB hR
  go_enter Try.func32, Try.ntmps32
  go_wp2
  go_loopg [3, 11] L.length (fun g sz i wr => ∃ k : Nat, i = .int .i64 k ∧ k ≤ L.length ∧ g = L.length - k ∧ w = wr ∧ sz = .int .i64 ((SrcSeg.all (L.take k)).length : Nat))
  case atStart => exact ⟨0, rfl, by omega, rfl, rfl, rfl⟩
  case round =>
    obtain ⟨k, rfl, hk, hg, rfl, rfl⟩ := hrel
    have HG := Lib.hid hg
    clear hg
    by_cases hlt : k < L.length
    · obtain ⟨s, hs1⟩ : ∃ s, L[k]? = some s := ⟨_, List.getElem?_eq_getElem hlt⟩
      have cb := HB.out.2 k s.val (by simp [hs1])
      have cz := HB.out.1
      have ha := congrArg List.length (SrcSeg.all_take hs1)
      rw [List.length_append] at ha
      have hle := SrcSeg.all_le L (k + 1)
      have HA := Lib.hid ha
      have hle2 : (SrcSeg.all (L.take k)).length + s.xs.length ≤ 1000000 := by omega
      unfold SrcSeg.val at cb
      clear hs1 ha hle
      go_wp2
      go_roundg (L.length - (k + 1))
      case measure => have := HG.out; omega
      case rel => exact ⟨k + 1, by go_num, by omega, rfl, rfl, by rw [HA.out]; go_num⟩
    · have HA : Hid (SrcSeg.all (L.take k) = SrcSeg.all L) := by show _ = _; rw [List.take_of_length_le (by omega)]
      have hsz := SrcSeg.all_le L k
      go_wp2_with fail
      refine (grow_Seg _ w (by omega)).mono ?_
      rintro e w1 ⟨v, rfl, ho, hb⟩
      have HO := Lib.hid ho
      have HE := Lib.hid hb
      clear ho hb
      go_wp2
      go_loopg [6, 27] L.length (fun g u i wj => ∃ j : Nat, i = .int .i64 j ∧ j ≤ L.length ∧ g = L.length - j ∧ Hid (Ext w wj ∧ OwnL wj w.heap.size 25 4 Sgc u (SrcSeg.all (L.take j))))
      case atStart => exact ⟨0, rfl, by omega, rfl, HE.out, HO.out⟩
      case round =>
        obtain ⟨j, rfl, hj, hg2, H2⟩ := hrel
        have HG2 := Lib.hid hg2
        clear hg2
        by_cases hlt2 : j < L.length
        · obtain ⟨s, hs1⟩ : ∃ s, L[j]? = some s := ⟨_, List.getElem?_eq_getElem hlt2⟩
          have CB := HB.out.keep H2.out.1
          have cb := CB.2 j s.val (by simp [hs1])
          have cz := CB.1
          have HS := Lib.hid ((HR.out j s hs1).keep H2.out.1)
          have HA2 := Lib.hid (SrcSeg.all_take hs1)
          have ha := congrArg List.length (SrcSeg.all_take hs1)
          rw [List.length_append] at ha
          have hle := SrcSeg.all_le L (j + 1)
          have hle2 : (SrcSeg.all (L.take j)).length + s.xs.length ≤ 1000000 := by omega
          unfold SrcSeg.val at cb
          clear CB hs1 ha hle
          go_wp2_with (at_builtin
                       refine wp_appL (u := w) Sgc_len Sgc_one Try.underlying22 hi hz0 hz1 hz2 rfl (by decide) rfl rfl rfl H2.out.2 H2.out.1 s.xs s.A s.c (by simp [go_sem]) HS.out (by omega) (by unfold maxLen; omega) ?_
                       intro v1 w1 H1)
          go_roundg (L.length - (j + 1))
          case measure => have := HG2.out; omega
          case rel => exact ⟨j + 1, by go_num, by omega, rfl, H1.out.2.1, by rw [HA2.out]; exact H1.out.1⟩
        · have HA2 : Hid (SrcSeg.all (L.take j) = SrcSeg.all L) := by show _ = _; rw [List.take_of_length_le (by omega)]
          go_wp2
          go_ret
          exact ⟨_, rfl, by rw [← HA2.out]; exact H2.out.2, H2.out.1⟩

end Go.Proofs.Ytoodehilgogomaa
