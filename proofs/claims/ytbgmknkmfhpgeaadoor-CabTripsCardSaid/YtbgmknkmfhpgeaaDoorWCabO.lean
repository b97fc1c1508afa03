/- Walks: a movement is measured. -/
import Derived.Test.YtbgmknkmfhpgeaaDoorWCabH
import Derived.Test.YtbgmknkmfhpgeaaDoorWOdo3
import Derived.Test.YtbgmknkmfhpgeaaDoorRowQ
import Derived.Test.YtbgmknkmfhpgeaaDoorWNum
set_option linter.unusedVariables false
set_option linter.unusedSimpArgs false
set_option maxRecDepth 100000
namespace Go.Proofs.YtbgmknkmfhpgeaaDoor
open Go.ChangeShapes Go.WideShapes Go.ChangeAt Go.RowKit
open Sg
theorem clN_of (n : Int) (k : Nat) : clampV n 0 k = clN n k := by unfold clampV clN; omega
def ReaR (l : List Lnk) (w0 : World) (e : Ending) (w' : World) : Prop := ∃ n v : Int, e = .returned (.tuple #[.int .i64 n, .int .i64 v]) ∧ 0 ≤ n ∧ n ≤ l.length ∧ (v = 0 ∨ ((v = 1 ∨ v = 2) ∧ 1 ≤ n)) ∧ w0 = w'
theorem read_any (l : List Lnk) (L : Option Addr) (cl : Nat) (next id : Int) (w : World) (hl : l.length ≤ 1000000) (hr : Rd w L 2 Lkc l) :
    Calls Tryd.prog 58 #[.slice L l.length cl, .int .i64 next, .int .i64 id] w fun e w' => ReaR l w e w' := by
  have hle := clN_le next l.length
  obtain ⟨f, hf⟩ : ∃ f, f = clN next l.length := ⟨_, rfl⟩
  have HCC : Hid (∀ x, Calls Tryd.prog 84 #[.int .i64 next, .int .i64 0, .int .i64 (l.length : Nat)] x fun e w' => e = .returned (.int .i64 (f : Nat)) ∧ x = w') := fun x => by
    have := clamp_any next 0 (l.length : Nat) x
    rw [clN_of, ← hf] at this
    exact this
  have hfl : f ≤ l.length := by omega
  obtain ⟨r, hrr⟩ : ∃ r, r = fndO l f id := ⟨_, rfl⟩
  have HFC : Hid (Calls Tryd.prog 87 #[.slice L l.length cl, .int .i64 f, .int .i64 id] w fun e w' => e = .returned (.int .i64 (optI r)) ∧ w = w') := by
    show Calls _ _ _ _ _
    rw [hrr]; exact find_any l L cl f id w hl hfl hr
  have HFI := Lib.hid (fun i (h : r = some i) => fnd_is (hrr.symm.trans h))
  have HFL := Lib.hid hfl
  clear hr hrr hf hle hfl
  cases r with
  | none =>
    go_enter Tryd.func58, Tryd.ntmps58
    go_wp2_with fail
    refine (HCC.out _).mono ?_
    rintro e w' ⟨rfl, rfl⟩
    go_wp2_with fail
    refine HFC.out.mono ?_
    rintro e w' ⟨rfl, rfl⟩
    go_wp2
    go_ret2
    exact ⟨f, 0, rfl, by omega, by have := HFL.out; omega, .inl rfl, rfl⟩
  | some i =>
    have hi := (HFI.out i rfl).2.1
    have hp : decide ((i : Int) < 0) = false := decide_eq_false (by omega)
    have hw : IntKind.i64.wrap ((i : Int) + 1) = (i : Int) + 1 := IntWalk.i64_in _ (by omega)
    have HI := Lib.hid hi
    clear hi
    replace HFC : Hid (Calls Tryd.prog 87 #[.slice L l.length cl, .int .i64 f, .int .i64 id] w fun e w' => e = .returned (.int .i64 (i : Nat)) ∧ w = w') := HFC
    cases q : ((i : Int) == (f : Int))
    all_goals
      go_enter Tryd.func58, Tryd.ntmps58
      go_wp2_with fail
      refine (HCC.out _).mono ?_
      rintro e w' ⟨rfl, rfl⟩
      go_wp2_with fail
      refine HFC.out.mono ?_
      rintro e w' ⟨rfl, rfl⟩
      go_wp2
      go_ret2
      exact ⟨(i : Int) + 1, _, rfl, by omega, by have := HI.out; omega, by first | exact .inr ⟨.inl rfl, by omega⟩ | exact .inr ⟨.inr rfl, by omega⟩, rfl⟩
def OvdR (w0 : World) (e : Ending) (w' : World) : Prop := ∃ n : Int, e = .returned (.int .i64 n) ∧ Below w0.heap.size w0 w'
set_option maxHeartbeats 4000000 in
theorem overdue_any (l : List Lnk) (L : Option Addr) (cl : Nat) (next : Int) (E : Es) (w : World) (hl : l.length ≤ 1000000) (hlk : ∀ (i : Nat) x, l[i]? = some x → -1073741824 ≤ x.at_ ∧ x.at_ ≤ 1073741824) (hr : Rd w L 2 Lkc l) :
    Calls Tryd.prog 60 #[.slice L l.length cl, .int .i64 next, .agg #[.int .i64 E.min, .int .i64 E.max, .int .i64 E.speed]] w fun e w' => OvdR w e w' := by
  have hle := clN_le next l.length
  obtain ⟨f, hf⟩ : ∃ f, f = clN next l.length := ⟨_, rfl⟩
  have HCC : Hid (∀ x, Calls Tryd.prog 84 #[.int .i64 next, .int .i64 0, .int .i64 (l.length : Nat)] x fun e w' => e = .returned (.int .i64 (f : Nat)) ∧ x = w') := fun x => by
    have := clamp_any next 0 (l.length : Nat) x
    rw [clN_of, ← hf] at this
    exact this
  have hfl : f ≤ l.length := by omega
  have HR := Lib.hid hr
  have HLK := Lib.hid hlk
  clear hr hlk hf hle
  obtain ⟨w1, hw⟩ : ∃ w1, w1 = (w.alloc (.cells #[.int .i64 E.min, .int .i64 E.max, .int .i64 E.speed] 25)) := ⟨_, rfl⟩
  have HE0 : Hid (Ext w w1) := by rw [hw]; exact eal (Ext.refl w) _
  have HE : Hid (Own w1 (w.heap.size) [.int .i64 E.min, .int .i64 E.max, .int .i64 E.speed]) := by rw [hw]; exact Own.new (w := w) (cs := #[.int .i64 E.min, .int .i64 E.max, .int .i64 E.speed]) (t := 25) (by simp)
  go_enter Tryd.func60, Tryd.ntmps60
  go_upto_region 1 with (fail)
  rw [← hw]
  clear hw
  go_wp2_with fail
  refine (HCC.out _).mono ?_
  rintro e w' ⟨rfl, rfl⟩
  go_wp2_with fail
  go_loopg [7] (l.length - f) (fun g i wr => ∃ j : Nat, i = .int .i64 j ∧ f ≤ j ∧ j ≤ l.length ∧ g = l.length - j ∧ Hid (Ext w1 wr))
  case atStart => exact ⟨f, rfl, Nat.le_refl _, hfl, rfl, Ext.refl _⟩
  case round =>
    obtain ⟨j, rfl, hfj, hj, hg, H⟩ := hrel
    have HG := Lib.hid hg
    clear hg
    by_cases hlt : j < l.length
    · obtain ⟨b, off, s, rfl, hs, hbs, c0, c1⟩ := rd_lnk HR.out (etr HE0.out H.out) hlt
      have hb := HLK.out j s hs
      have hwr : IntKind.i64.wrap (s.at_ + 500) = s.at_ + 500 := IntWalk.i64_in _ (by omega)
      have HE3 := Lib.hid (HE.out.keep H.out)
      have e0 := HE3.out.cells.2 0 _ rfl
      have ez := HE3.out.cells.1
      clear hs hb
      cases q : decide (E.min ≤ s.at_ + 500)
      · go_wp2
        refine wp_region_after (by kernel_rfl) (by kernel_rfl) ?_
        repeat (first | go_big_quiet_step (fail))
        refine wpQuiet_nil ?_
        rintro _ ⟨y, rfl⟩
        go_wp2
        go_roundg (l.length - (j + 1))
        case measure => have := HG.out; omega
        case rel => exact ⟨j + 1, by go_num, by omega, by omega, rfl, etr H.out y.is⟩
      · go_wp2
        refine wp_region_after (by kernel_rfl) (by kernel_rfl) ?_
        repeat (first | go_big_quiet_step (fail))
        refine wpQuiet_nil ?_
        rintro _ ⟨y, rfl⟩
        go_wp2
        go_ret
        exact ⟨_, rfl, etr (etr HE0.out H.out) y.is⟩
    · go_wp2
      go_ret
      exact ⟨_, rfl, etr HE0.out H.out⟩
theorem confirm_any (k : Bool) (s now : Int) (w : World) : Calls Tryd.prog 61 #[.agg #[.bool k, .int .i64 s], .int .i64 now] w fun e w' => e = .returned (.agg #[.bool true, .int .i64 now]) ∧ Below w.heap.size w w' := by
  obtain ⟨w1, hw⟩ : ∃ w1, w1 = ((w.alloc (.cells #[.bool k, .int .i64 s] 33)).alloc (.cells #[.bool false, .int .i64 0] 33)) := ⟨_, rfl⟩
  have HE0 : Hid (Ext w w1) := by rw [hw]; exact eal (eal (Ext.refl w) _) _
  have HB : Hid (Own w1 (w.heap.size) [.bool k, .int .i64 s]) := by rw [hw]; exact (Own.new (w := w) (cs := #[.bool k, .int .i64 s]) (t := 33) (by simp)).alloc _
  have HR : Hid (Own w1 (w.heap.size + 1) [.bool false, .int .i64 0]) := by rw [hw]; exact Own.new (w := (w.alloc (.cells #[.bool k, .int .i64 s] 33))) (cs := #[.bool false, .int .i64 0]) (t := 33) (by simp)
  go_enter Tryd.func61, Tryd.ntmps61
  go_upto_region 1 with (fail)
  rw [← hw]
  clear hw
  have a0 := HB.out.cells.2 0 _ rfl
  have a1 := HB.out.cells.2 1 _ rfl
  have az := HB.out.cells.1
  have af := HB.out.2.2
  go_upto_region 3 with (fail)
  obtain ⟨w2, hw2⟩ : ∃ x, x = ((w1.setCell ⟨w.heap.size, 0, none⟩ (.bool true)).setCell ⟨w.heap.size, 1, none⟩ (.int .i64 now)) := ⟨_, rfl⟩
  obtain ⟨Ow2, Nw2⟩ := setN_at HB.out 0 [.bool true, .int .i64 now] (ws := [.bool true, .int .i64 now]) rfl (by simp) hw2
  rw [← hw2]
  clear hw2
  have HOBv1 := Lib.hid (Ow2)
  have HORv1 := Lib.hid (HR.out.only Nw2 (by omega))
  have HXv1 := Lib.hid (eonly HE0.out Nw2 (by omega))
  clear Ow2 Nw2
  go_wp2_with (first | (refine wp_ldN 33 [.bool true, .int .i64 now] rfl rfl rfl (HOBv1.out).cells Tryd.underlying33 szTai rfl ?_) | (refine wp_stN 33 [.bool true, .int .i64 now] [.bool true, .int .i64 now] rfl rfl rfl (HORv1.out) rfl szTai rfl (by show (0 + 2 : Nat) ≤ 2; decide) rfl ?_; intro w9 H9))
  refine bodyPost_ret (res_c (by rfl) (by rfl) (H9.out.1).cells Tryd.underlying33 szTai) rfl ⟨rfl, eonly HXv1.out H9.out.2 (by omega)⟩
end Go.Proofs.YtbgmknkmfhpgeaaDoor
