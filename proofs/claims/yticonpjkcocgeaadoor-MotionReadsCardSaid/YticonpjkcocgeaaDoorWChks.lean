/- Several texts in one: WChkA, WChkB, WChkC, WChkD, WChkE, WChkF, WChk5. -/
import Derived.Test.YticonpjkcocgeaaDoorWLays
import Derived.Laws.Strings
import Derived.Test.YticonpjkcocgeaaDoorKAll
import Derived.Test.YticonpjkcocgeaaDoorPAll
set_option linter.unusedVariables false
set_option linter.unusedSimpArgs false
set_option maxRecDepth 100000
namespace Go.Proofs.YticonpjkcocgeaaDoor
open Go.ChangeShapes Go.WideShapes Go.ChangeAt Go.RowKit
open Sg

/-- It returns some Bool, of which P holds. -/
def RetB (P : Bool → Prop) (w : World) (e : Ending) (w' : World) : Prop := ∃ b, e = .returned (.bool b) ∧ P b ∧ Below w.heap.size w w'
/-- It returns some number, of which P holds. -/
def RetE (P : Int → Prop) (w : World) (e : Ending) (w' : World) : Prop := ∃ n, e = .returned (.int .i64 n) ∧ P n ∧ Below w.heap.size w w'
theorem RetB.mk {P : Bool → Prop} {w w' : World} {b : Bool} (h : P b) (hb : Below w.heap.size w w') : RetB P w (.returned (.bool b)) w' := ⟨b, rfl, h, hb⟩
theorem RetE.mk {P : Int → Prop} {w w' : World} {n : Int} (h : P n) (hb : Below w.heap.size w w') : RetE P w (.returned (.int .i64 n)) w' := ⟨n, rfl, h, hb⟩
def RightP (x : Elm) : Prop := 1 ≤ x.kind ∧ x.kind ≤ 3 ∧ 500 ≤ x.len ∧ x.len ≤ 1000000 ∧ -50 ≤ x.grade ∧ x.grade ≤ 50 ∧ 0 ≤ x.sec
set_option maxHeartbeats 8000000 in
theorem right_any (L : Lay) (x : Elm) (w : World) : Calls Tryd.prog 87 #[.agg #[.string L.name, .slice L.aS L.secs.length L.cS, .slice L.aE L.els.length L.cE, .slice L.aJ L.jts.length L.cJ, .slice L.aG L.sgs.length L.cG, .slice L.aB L.bals.length L.cB], .agg #[.string x.name, .int .i64 x.kind, .int .i64 x.len, .int .i64 x.grade, .int .i64 x.speed, .int .i64 x.slow, .int .i64 x.sec]] w (RetB (fun b => b = true → RightP x) w) := by
  go_enter Tryd.func87, Tryd.ntmps87
  go_wp2
  all_goals go_ret
  all_goals refine RetB.mk (fun hb => ?_) (eal (eal (Ext.refl _) _) _)
  all_goals first | (exact ⟨by omega, by omega, by omega, by omega⟩) | (exact ⟨by omega, by omega, by omega, by omega, by omega, by omega, by omega⟩) | (cases hb)
def sidesV (k : Int) : Int := if k = 1 then 2 else if k = 2 then 3 else if k = 3 then 4 else 0
theorem sides_any (k : Int) (w : World) : Calls Tryd.prog 107 #[.int .i64 k] w fun e w' => e = .returned (.int .i64 (sidesV k)) ∧ Below w.heap.size w w' := by
  by_cases k1 : k = 1
  · subst k1
    go_enter Tryd.func107, Tryd.ntmps107
    go_wp2
    go_ret
    exact ⟨rfl, Ext.refl _⟩
  by_cases k2 : k = 2
  · subst k2
    clear k1
    go_enter Tryd.func107, Tryd.ntmps107
    go_wp2
    go_ret
    exact ⟨rfl, Ext.refl _⟩
  by_cases k3 : k = 3
  · subst k3
    clear k1 k2
    go_enter Tryd.func107, Tryd.ntmps107
    go_wp2
    go_ret
    exact ⟨rfl, Ext.refl _⟩
  · have HV : sidesV k = 0 := by unfold sidesV; rw [if_neg k1, if_neg k2, if_neg k3]
    have b1 : (k == 1) = false := by simpa using k1
    have b2 : (k == 2) = false := by simpa using k2
    have b3 : (k == 3) = false := by simpa using k3
    rw [HV]
    clear k1 k2 k3 HV
    go_enter Tryd.func107, Tryd.ntmps107
    go_wp2
    go_ret
    exact ⟨rfl, Ext.refl _⟩
open Classical in
noncomputable def exB (els : List Elm) (e : Sg.End) : Bool := decide (0 ≤ e.el ∧ e.el < els.length ∧ 0 ≤ e.side ∧ e.side < sidesV (elAt els e.el).kind)
theorem exB_has {els : List Elm} {e : Sg.End} (h : exB els e = true) : hasEl els e.el := by
  have := of_decide_eq_true h
  exact ⟨this.1, this.2.1⟩
set_option maxHeartbeats 8000000 in
theorem ends_exist (L : Lay) (e : Sg.End) (w : World) (hL : LayOk w L) : Calls Tryd.prog 89 #[.agg #[.string L.name, .slice L.aS L.secs.length L.cS, .slice L.aE L.els.length L.cE, .slice L.aJ L.jts.length L.cJ, .slice L.aG L.sgs.length L.cG, .slice L.aB L.bals.length L.cB], .agg #[.int .i64 e.el, .int .i64 e.side]] w fun r w' => r = .returned (.bool (exB L.els e)) ∧ Below w.heap.size w w' := by
  have HL := Lib.hid hL
  have hmE := hL.lE
  unfold maxLen at hmE
  clear hL
  by_cases k1 : e.el < 0
  · have HV : Hid (exB L.els e = false) := decide_eq_false (fun h => by omega)
    have q1 : decide (0 ≤ e.el) = false := decide_eq_false (by omega)
    clear k1
    go_enter Tryd.func89, Tryd.ntmps89
    go_wp2
    refine wp_region_after (by kernel_rfl) (by kernel_rfl) ?_
    repeat (first | go_big_quiet_step (fail))
    refine wpQuiet_nil ?_
    rintro _ ⟨y, rfl⟩
    go_wp2
    go_ret
    exact ⟨ret_bool HV.out.symm, etr (eal (eal (Ext.refl _) _) _) y.is⟩
  have q1 : decide (0 ≤ e.el) = true := decide_eq_true (by omega)
  by_cases k2 : (L.els.length : Int) ≤ e.el
  · have HV : Hid (exB L.els e = false) := decide_eq_false (fun h => by omega)
    have q2 : decide (e.el < (L.els.length : Int)) = false := decide_eq_false (by omega)
    clear k1 k2
    go_enter Tryd.func89, Tryd.ntmps89
    go_wp2
    refine wp_region_after (by kernel_rfl) (by kernel_rfl) ?_
    repeat (first | go_big_quiet_step (fail))
    refine wpQuiet_nil ?_
    rintro _ ⟨y, rfl⟩
    go_wp2
    go_ret
    exact ⟨ret_bool HV.out.symm, etr (eal (eal (Ext.refl _) _) _) y.is⟩
  obtain ⟨kE, x, hel, hx, hxe⟩ := has_at (els := L.els) (el := e.el) ⟨by omega, by omega⟩
  obtain ⟨bE, oE, x', hA, hx', hbE, e0, e1, e2, e3, e4, e5, e6⟩ := rd_el HL.out.hE (Ext.refl w) (List.getElem?_eq_some_iff.1 hx).1
  rw [hx] at hx'
  cases hx'
  have hkE := (List.getElem?_eq_some_iff.1 hx).1
  have HXE := Lib.hid hxe
  obtain ⟨el, side⟩ := e
  obtain rfl : el = (kE : Int) := hel
  simp only [] at HXE
  have hbE1 : bE < w.heap.size + 1 := by omega
  have hbE2 : bE < w.heap.size + 1 + 1 := by omega
  have q2 : decide ((kE : Int) < (L.els.length : Int)) = true := decide_eq_true (by omega)
  have q2n : decide (kE < L.els.length) = true := decide_eq_true (by omega)
  have q1' : decide (0 ≤ (kE : Int)) = true := decide_eq_true (by omega)
  clear k1 k2 hx hxe q1
  rw [hA]
  clear hA
  by_cases k3 : side < 0
  · have HV : Hid (exB L.els ⟨kE, side⟩ = false) := decide_eq_false (fun h => by have := h.2.2.1; simp only [] at this; omega)
    have q3 : decide (0 ≤ side) = false := decide_eq_false (by omega)
    clear k3
    go_enter Tryd.func89, Tryd.ntmps89
    go_wp2
    refine wp_region_after (by kernel_rfl) (by kernel_rfl) ?_
    repeat (first | go_big_quiet_step (fail))
    refine wpQuiet_nil ?_
    rintro _ ⟨y, rfl⟩
    go_wp2
    go_ret
    exact ⟨ret_bool HV.out.symm, etr (eal (eal (Ext.refl _) _) _) y.is⟩
  · have q3 : decide (0 ≤ side) = true := decide_eq_true (by omega)
    have HV : Hid (exB L.els ⟨kE, side⟩ = decide (side < sidesV x.kind)) := by
      show _ = _
      unfold exB
      simp only [HXE.out]
      rw [decide_eq_decide]
      exact ⟨fun h => h.2.2.2, fun h => ⟨by omega, by omega, by omega, h⟩⟩
    clear k3
    go_enter Tryd.func89, Tryd.ntmps89
    go_wp2
    refine wp_region_after (by kernel_rfl) (by kernel_rfl) ?_
    repeat (first | go_big_quiet_step ((go_at_call 107; exact after_call _ (sides_any x.kind _))))
    refine wpQuiet_nil ?_
    rintro _ ⟨y, rfl⟩
    go_wp2
    go_ret
    exact ⟨ret_bool HV.out.symm, etr (eal (eal (Ext.refl _) _) _) y.is⟩
end Go.Proofs.YticonpjkcocgeaaDoor

set_option linter.unusedVariables false
set_option linter.unusedSimpArgs false
set_option maxRecDepth 100000
namespace Go.Proofs.YticonpjkcocgeaaDoor
open Go.ChangeShapes Go.WideShapes Go.ChangeAt Go.RowKit
open Sg

def Enc (s : Sg.End) : List Value := [.int .i64 s.el, .int .i64 s.side]
theorem Enc_len (s : Sg.End) : (Enc s).length = 2 := rfl
theorem Enc_one (s : Sg.End) : ∀ u ∈ Enc s, u.oneCell' = true := by intro u hu; simp [Enc] at hu; rcases hu with rfl | rfl <;> rfl
theorem rd_en {w wr : World} {A : Option Addr} {p : List Sg.End} {k : Nat} (h : Rd w A 2 Enc p) (hb : Ext w wr) (hk : k < p.length) :
    ∃ b off s, A = some ⟨b, off, none⟩ ∧ p[k]? = some s ∧ b < wr.heap.size ∧ wr.cell? ⟨b, off + k * 2, none⟩ = some (.int .i64 s.el) ∧ wr.cell? ⟨b, off + k * 2 + 1, none⟩ = some (.int .i64 s.side) := by
  obtain ⟨b, off, rfl, h1, h2⟩ := h.keep hb (by omega)
  obtain ⟨s, hs⟩ : ∃ s, p[k]? = some s := ⟨_, List.getElem?_eq_getElem hk⟩
  exact ⟨b, off, s, rfl, hs, h1, h2 k s hs 0 _ rfl, h2 k s hs 1 _ rfl⟩
def Nmc (n : Int) : List Value := [.int .i64 n]
theorem Nmc_len (n : Int) : (Nmc n).length = 1 := rfl
theorem Nmc_one (n : Int) : ∀ u ∈ Nmc n, u.oneCell' = true := by intro u hu; simp [Nmc] at hu; subst hu; rfl
theorem rd_nm {w wr : World} {A : Option Addr} {p : List Int} {k : Nat} (h : Rd w A 1 Nmc p) (hb : Ext w wr) (hk : k < p.length) :
    ∃ b off s, A = some ⟨b, off, none⟩ ∧ p[k]? = some s ∧ b < wr.heap.size ∧ wr.cell? ⟨b, off + k * 1, none⟩ = some (.int .i64 s) ∧ wr.cell? ⟨b, off + k, none⟩ = some (.int .i64 s) := by
  obtain ⟨b, off, rfl, h1, h2⟩ := h.keep hb (by omega)
  obtain ⟨s, hs⟩ : ∃ s, p[k]? = some s := ⟨_, List.getElem?_eq_getElem hk⟩
  have := h2 k s hs 0 _ rfl
  exact ⟨b, off, s, rfl, hs, h1, this, by simpa using this⟩
theorem rd_same {b off b' off' : Nat} (h : (some ⟨b, off, none⟩ : Option Addr) = some ⟨b', off', none⟩) : b' = b ∧ off' = off := by cases h; exact ⟨rfl, rfl⟩
set_option maxHeartbeats 8000000 in
theorem texts_any (A : Option Addr) (p : List ByteArray) (c : Nat) (w : World) (hm : p.length ≤ maxLen) (hr : Rd w A 1 Strc p) : Calls Tryd.prog 86 #[.slice A p.length c] w (RetB (fun _ => True) w) := by
  unfold maxLen at hm
  have HR := Lib.hid hr
  clear hr
  go_enter Tryd.func86, Tryd.ntmps86
  go_wp2
  go_loopg [7] p.length (fun g ix wr => ∃ k : Nat, ix = .int .i64 k ∧ k ≤ p.length ∧ g = p.length - k ∧ Hid (Ext w wr))
  case atStart => exact ⟨0, rfl, by omega, by omega, Ext.refl _⟩
  case round =>
    obtain ⟨k, rfl, hk, hg, H⟩ := hrel
    have HG := Lib.hid hg
    clear hg
    by_cases hlt : k < p.length
    · obtain ⟨b, off, s, rfl, _, _, _⟩ := rd_tx HR.out H.out hlt
      go_wp2
      have HH := Lib.hid H.out
      go_loopg [11] k (fun g ix wr2 => ∃ j : Nat, ix = .int .i64 j ∧ j ≤ k ∧ g = k - j ∧ Hid (Ext w wr2))
      case atStart => exact ⟨0, rfl, by omega, by omega, HH.out⟩
      case round =>
        obtain ⟨j, rfl, hj, hg2, H2⟩ := hrel
        have HG2 := Lib.hid hg2
        clear hg2
        by_cases hlt2 : j < k
        · obtain ⟨b1, off1, s, hA1, _, hbs, d0, d1⟩ := rd_tx HR.out H2.out hlt
          obtain ⟨rfl, rfl⟩ := rd_same hA1
          obtain ⟨b2, off2, t, hA2, _, _, e0, e1⟩ := rd_tx HR.out H2.out (show j < p.length by omega)
          obtain ⟨rfl, rfl⟩ := rd_same hA2
          rcases Bool.eq_false_or_eq_true (s.toList == t.toList) with q | q
          · go_wp2
            refine wp_region_after (by kernel_rfl) (by kernel_rfl) ?_
            repeat (first | go_big_quiet_step (fail))
            refine wpQuiet_nil ?_
            rintro _ ⟨y, rfl⟩
            go_wp2
            go_ret
            exact RetB.mk trivial (etr H2.out y.is)
          · go_wp2
            refine wp_region_after (by kernel_rfl) (by kernel_rfl) ?_
            repeat (first | go_big_quiet_step (fail))
            refine wpQuiet_nil ?_
            rintro _ ⟨y, rfl⟩
            go_wp2
            go_roundg (k - (j + 1))
            case measure => have := HG2.out; omega
            case rel => exact ⟨j + 1, by go_num, by omega, rfl, etr H2.out y.is⟩
        · go_wp2
          go_roundg (p.length - (k + 1))
          case measure => have := HG.out; omega
          case rel => exact ⟨k + 1, by go_num, by omega, rfl, H2.out⟩
    · go_wp2
      go_ret
      exact RetB.mk trivial H.out
set_option maxHeartbeats 8000000 in
theorem numbers_any (A : Option Addr) (p : List Int) (c : Nat) (w : World) (hm : p.length ≤ maxLen) (hr : Rd w A 1 Nmc p) : Calls Tryd.prog 92 #[.slice A p.length c] w (RetB (fun _ => True) w) := by
  unfold maxLen at hm
  have HR := Lib.hid hr
  clear hr
  go_enter Tryd.func92, Tryd.ntmps92
  go_wp2
  go_loopg [7] p.length (fun g ix wr => ∃ k : Nat, ix = .int .i64 k ∧ k ≤ p.length ∧ g = p.length - k ∧ Hid (Ext w wr))
  case atStart => exact ⟨0, rfl, by omega, by omega, Ext.refl _⟩
  case round =>
    obtain ⟨k, rfl, hk, hg, H⟩ := hrel
    have HG := Lib.hid hg
    clear hg
    by_cases hlt : k < p.length
    · obtain ⟨b, off, s, rfl, _, _, _⟩ := rd_nm HR.out H.out hlt
      go_wp2
      have HH := Lib.hid H.out
      go_loopg [11] k (fun g ix wr2 => ∃ j : Nat, ix = .int .i64 j ∧ j ≤ k ∧ g = k - j ∧ Hid (Ext w wr2))
      case atStart => exact ⟨0, rfl, by omega, by omega, HH.out⟩
      case round =>
        obtain ⟨j, rfl, hj, hg2, H2⟩ := hrel
        have HG2 := Lib.hid hg2
        clear hg2
        by_cases hlt2 : j < k
        · obtain ⟨b1, off1, s, hA1, _, hbs, d0, d1⟩ := rd_nm HR.out H2.out hlt
          obtain ⟨rfl, rfl⟩ := rd_same hA1
          obtain ⟨b2, off2, t, hA2, _, _, e0, e1⟩ := rd_nm HR.out H2.out (show j < p.length by omega)
          obtain ⟨rfl, rfl⟩ := rd_same hA2
          rcases Bool.eq_false_or_eq_true (s == t) with q | q
          · go_wp2
            refine wp_region_after (by kernel_rfl) (by kernel_rfl) ?_
            repeat (first | go_big_quiet_step (fail))
            refine wpQuiet_nil ?_
            rintro _ ⟨y, rfl⟩
            go_wp2
            go_ret
            exact RetB.mk trivial (etr H2.out y.is)
          · go_wp2
            refine wp_region_after (by kernel_rfl) (by kernel_rfl) ?_
            repeat (first | go_big_quiet_step (fail))
            refine wpQuiet_nil ?_
            rintro _ ⟨y, rfl⟩
            go_wp2
            go_roundg (k - (j + 1))
            case measure => have := HG2.out; omega
            case rel => exact ⟨j + 1, by go_num, by omega, rfl, etr H2.out y.is⟩
        · go_wp2
          go_roundg (p.length - (k + 1))
          case measure => have := HG.out; omega
          case rel => exact ⟨k + 1, by go_num, by omega, rfl, H2.out⟩
    · go_wp2
      go_ret
      exact RetB.mk trivial H.out
set_option maxHeartbeats 8000000 in
theorem ends_any (A : Option Addr) (p : List Sg.End) (c : Nat) (w : World) (hm : p.length ≤ maxLen) (hr : Rd w A 2 Enc p) : Calls Tryd.prog 90 #[.slice A p.length c] w (RetB (fun _ => True) w) := by
  unfold maxLen at hm
  have HR := Lib.hid hr
  clear hr
  go_enter Tryd.func90, Tryd.ntmps90
  go_wp2
  go_loopg [7] p.length (fun g ix wr => ∃ k : Nat, ix = .int .i64 k ∧ k ≤ p.length ∧ g = p.length - k ∧ Hid (Ext w wr))
  case atStart => exact ⟨0, rfl, by omega, by omega, Ext.refl _⟩
  case round =>
    obtain ⟨k, rfl, hk, hg, H⟩ := hrel
    have HG := Lib.hid hg
    clear hg
    by_cases hlt : k < p.length
    · obtain ⟨b, off, s, rfl, _, _, _⟩ := rd_en HR.out H.out hlt
      go_wp2
      have HH := Lib.hid H.out
      go_loopg [11] k (fun g ix wr2 => ∃ j : Nat, ix = .int .i64 j ∧ j ≤ k ∧ g = k - j ∧ Hid (Ext w wr2))
      case atStart => exact ⟨0, rfl, by omega, by omega, HH.out⟩
      case round =>
        obtain ⟨j, rfl, hj, hg2, H2⟩ := hrel
        have HG2 := Lib.hid hg2
        clear hg2
        by_cases hlt2 : j < k
        · obtain ⟨b1, off1, s, hA1, _, hbs, d0, d1⟩ := rd_en HR.out H2.out hlt
          obtain ⟨rfl, rfl⟩ := rd_same hA1
          obtain ⟨b2, off2, t, hA2, _, _, e0, e1⟩ := rd_en HR.out H2.out (show j < p.length by omega)
          obtain ⟨rfl, rfl⟩ := rd_same hA2
          rcases (show ((s.el == t.el) = true ∧ (s.side == t.side) = true) ∨ ((s.el == t.el) = true ∧ (s.side == t.side) = false) ∨ (s.el == t.el) = false by cases (s.el == t.el) <;> cases (s.side == t.side) <;> simp) with ⟨q, q2⟩ | ⟨q, q2⟩ | q
          · go_wp2
            refine wp_region_after (by kernel_rfl) (by kernel_rfl) ?_
            repeat (first | go_big_quiet_step (fail))
            refine wpQuiet_nil ?_
            rintro _ ⟨y, rfl⟩
            go_wp2
            go_ret
            exact RetB.mk trivial (etr H2.out y.is)
          · go_wp2
            refine wp_region_after (by kernel_rfl) (by kernel_rfl) ?_
            repeat (first | go_big_quiet_step (fail))
            refine wpQuiet_nil ?_
            rintro _ ⟨y, rfl⟩
            go_wp2
            go_roundg (k - (j + 1))
            case measure => have := HG2.out; omega
            case rel => exact ⟨j + 1, by go_num, by omega, rfl, etr H2.out y.is⟩
          · go_wp2
            refine wp_region_after (by kernel_rfl) (by kernel_rfl) ?_
            repeat (first | go_big_quiet_step (fail))
            refine wpQuiet_nil ?_
            rintro _ ⟨y, rfl⟩
            go_wp2
            go_roundg (k - (j + 1))
            case measure => have := HG2.out; omega
            case rel => exact ⟨j + 1, by go_num, by omega, rfl, etr H2.out y.is⟩
        · go_wp2
          go_roundg (p.length - (k + 1))
          case measure => have := HG.out; omega
          case rel => exact ⟨k + 1, by go_num, by omega, rfl, H2.out⟩
    · go_wp2
      go_ret
      exact RetB.mk trivial H.out
/-- It returns some slice. -/
def RetS (w : World) (e : Ending) (w' : World) : Prop := ∃ A n c, e = .returned (.slice A n c) ∧ Below w.heap.size w w'
theorem inf_Int : (Tryd.prog.info? 3).map (fun i => (i.zero, i.size, i.bytes)) = some (some (.int .i64 0), 1, 8) := by kernel_rfl
set_option maxHeartbeats 8000000 in
theorem members_any (L : Lay) (sec : Int) (w : World) (hL : LayOk w L) (hl : L.els.length ≤ 60) : Calls Tryd.prog 88 #[.agg #[.string L.name, .slice L.aS L.secs.length L.cS, .slice L.aE L.els.length L.cE, .slice L.aJ L.jts.length L.cJ, .slice L.aG L.sgs.length L.cG, .slice L.aB L.bals.length L.cB], .int .i64 sec] w (RetS w) := by
  obtain ⟨i0, hi, hz0, hz1, hz2⟩ := info_parts inf_Int
  have HII := Lib.hid hi
  have HL := Lib.hid hL
  clear hi hL
  go_enter Tryd.func88, Tryd.ntmps88
  go_wp2
  go_loopg [5, 11] L.els.length (fun g x5 ix wr => ∃ (k : Nat) (xs : List Int), ix = .int .i64 k ∧ k ≤ L.els.length ∧ g = L.els.length - k ∧ Hid (Ext w wr ∧ LayAt wr w.heap.size L ∧ OwnL wr (w.heap.size + 1) 3 1 Nmc x5 xs ∧ xs.length ≤ k))
  case atStart => exact ⟨0, [], rfl, by omega, by omega, eal (Ext.refl _) _, CellsAt.new rfl, OwnL.nil, by simp⟩
  case round =>
    obtain ⟨k, xs, rfl, hk, hg, H⟩ := hrel
    have HG := Lib.hid hg
    clear hg
    by_cases hlt : k < L.els.length
    · obtain ⟨b, off, x, hA, hs, hbs, c0, c1, c2, c3, c4, c5, c6⟩ := rd_el HL.out.hE H.out.1 hlt
      obtain ⟨l0, a0, a1, a2, a3, a4, a5⟩ := layAt_cells H.out.2.1
      have l1 : w.heap.size < wr.heap.size + 1 := by omega
      have HA := Lib.hid hA
      rw [hA]
      clear hs hA
      have key : ((x.sec == sec) = false) ∨ ((x.sec == sec) = true ∧ decide (0 ≤ sec) = false) ∨ ((x.sec == sec) = true ∧ decide (0 ≤ sec) = true ∧ decide (sec < (L.secs.length : Int)) = false) ∨ ((x.sec == sec) = true ∧ decide (0 ≤ sec) = true ∧ decide (sec < (L.secs.length : Int)) = true) := by
        cases (x.sec == sec) <;> cases decide (0 ≤ sec) <;> cases decide (sec < (L.secs.length : Int)) <;> simp
      rcases key with q1 | ⟨q1, q2⟩ | ⟨q1, q2, q3⟩ | ⟨q1, q2, q3⟩
      iterate 3
        · go_wp2
          rw [← HA.out]
          go_roundg (L.els.length - (k + 1))
          case measure => have := HG.out; omega
          case rel => exact ⟨k + 1, xs, by go_num, by omega, rfl, eal H.out.1 _, H.out.2.1.keep (eal (Ext.refl _) _), H.out.2.2.1.keep (eal (Ext.refl _) _), by have := H.out.2.2.2; omega⟩
      · have hi := HII.out
        have hxl := H.out.2.2.2
        have E4 : Hid (Ext wr ((wr.alloc (.cells #[.string x.name, .int .i64 x.kind, .int .i64 x.len, .int .i64 x.grade, .int .i64 x.speed, .int .i64 x.slow, .int .i64 x.sec] 79)).alloc (.cells #[.int .i64 k] 3))) := eal (eal (Ext.refl _) _) _
        have HY : Hid (CellsAt ((wr.alloc (.cells #[.string x.name, .int .i64 x.kind, .int .i64 x.len, .int .i64 x.grade, .int .i64 x.speed, .int .i64 x.slow, .int .i64 x.sec] 79)).alloc (.cells #[.int .i64 k] 3)) (wr.heap.size + 1) (Nmc (k : Int))) := CellsAt.new (by simp)
        go_wp2_with (at_builtin
                     refine wp_app1 Nmc_len Nmc_one Tryd.underlying29 hi hz0 hz1 hz2 rfl (by decide) rfl rfl rfl (H.out.2.2.1.keep E4.out) (k : Int) (wr.heap.size + 1) (by simp [go_sem]) HY.out (by omega) (by unfold maxLen; omega) (by have := E4.out.size; omega) ?_
                     intro v1 w1 h1 h2 h3
                     have H1 := Lib.hid h1
                     have H2 := Lib.hid h2
                     clear h1 h2 h3)
        rw [← HA.out]
        have NB : ∀ e, u5.ownBlock = some e → w.heap.size + 1 ≤ e := fun e he => (H.out.2.2.1.lt e he).1
        have E5 : Hid (Ext w w1) := OwnL.app_below (etr H.out.1 E4.out) (etr H.out.1 E4.out).size (fun b hb => by have := NB b hb; omega) H2.out
        have L5 : Hid (LayAt w1 w.heap.size L) := (H.out.2.1.keep E4.out).grown H2.out (fun e => by have := NB _ e; omega)
        go_roundg (L.els.length - (k + 1))
        case measure => have := HG.out; omega
        case rel => exact ⟨k + 1, xs ++ [(k : Int)], by go_num, by omega, rfl, E5.out, L5.out, H1.out, by simp; omega⟩
    · obtain ⟨A1, c1, rfl, _, _⟩ := H.out.2.2.1.rd Nmc_len
      go_wp2
      go_ret
      exact ⟨A1, _, c1, rfl, H.out.1⟩
set_option maxHeartbeats 8000000 in
theorem name_any (s : ByteArray) (w : World) (hs : s.size ≤ maxLen) : Calls Tryd.prog 69 #[.string s] w (RetB (fun _ => True) w) := by
  unfold maxLen at hs
  go_enter Tryd.func69, Tryd.ntmps69
  go_wp2
  go_loopg [3] s.size (fun g ix wr => ∃ k : Nat, ix = .int .i64 k ∧ k ≤ s.size ∧ g = s.size - k ∧ Hid (Ext w wr))
  case atStart => exact ⟨0, rfl, by omega, by omega, Ext.refl _⟩
  case round =>
    obtain ⟨k, rfl, hk, hg, H⟩ := hrel
    have HG := Lib.hid hg
    clear hg
    by_cases hlt : k < s.size
    · go_wp2
      all_goals first | (go_ret; exact RetB.mk trivial H.out) | (go_roundg (s.size - (k + 1)))
      all_goals first | (have := HG.out; omega) | exact ⟨k + 1, by go_num, by omega, rfl, H.out⟩
    · go_wp2
      all_goals go_ret
      all_goals exact RetB.mk trivial H.out
end Go.Proofs.YticonpjkcocgeaaDoor

set_option linter.unusedVariables false
set_option linter.unusedSimpArgs false
set_option maxRecDepth 100000
namespace Go.Proofs.YticonpjkcocgeaaDoor
open Go.ChangeShapes Go.WideShapes Go.ChangeAt Go.RowKit
open Sg

theorem lt_up1 {a b : Nat} (h : a < b) : a < b + 1 := by omega
theorem inf_Str : (Tryd.prog.info? 9).map (fun i => (i.zero, i.size, i.bytes)) = some (some (.string ⟨#[]⟩), 1, 16) := by kernel_rfl
def Fine (xs : List ByteArray) : Prop := xs.length ≤ 60 ∧ ∀ (i : Nat) x, xs[i]? = some x → x.size ≤ maxLen
/-- Three lists of strings. -/
def RetN (w : World) (e : Ending) (w' : World) : Prop := ∃ A0 c0 x0 A1 c1 x1 A2 c2 x2, e = .returned (.agg #[.slice A0 (List.length x0) c0, .slice A1 (List.length x1) c1, .slice A2 (List.length x2) c2]) ∧ Rd w' A0 1 Strc x0 ∧ Rd w' A1 1 Strc x1 ∧ Rd w' A2 1 Strc x2 ∧ Fine x0 ∧ Fine x1 ∧ Fine x2 ∧ Below w.heap.size w w'
theorem fine_snoc {ys : List ByteArray} {y : ByteArray} (h : ∀ (i : Nat) x, ys[i]? = some x → x.size ≤ maxLen) (g : y.size ≤ maxLen) : ∀ (i : Nat) x, (ys ++ [y])[i]? = some x → x.size ≤ maxLen := fun i x hx => by
  rcases List.mem_append.1 (List.mem_of_getElem? hx) with hm | hm
  · obtain ⟨j, hj, rfl⟩ := List.getElem_of_mem hm
    exact h j _ (List.getElem?_eq_getElem hj)
  · simp at hm; subst hm; exact g
theorem Rd.blk {α : Type} {w : World} {A : Option Addr} {k : Nat} {enc : α → List Value} {xs : List α} (h : Rd w A k enc xs) (h0 : 0 < xs.length) : ∀ a, A = some a → a.block < w.heap.size := fun a ha => by
  obtain ⟨b, off, e, h1, _⟩ := h h0
  rw [ha] at e; cases e; exact h1
theorem set3' {w : World} {b : Nat} {us : List Value} (v0 v1 v2 : Value) (h : Own w b us) (h3 : us.length = 3) : ∃ w', w' = (((w.setCell ⟨b, 0, none⟩ v0).setCell ⟨b, 1, none⟩ v1).setCell ⟨b, 2, none⟩ v2) ∧ Own w' b [v0, v1, v2] ∧ Only b w w' := set3 v0 v1 v2 h h3
set_option maxHeartbeats 16000000 in
theorem names_any (L : Lay) (w : World) (hL : LayOk w L) (hS : L.secs.length ≤ 60) (hE : L.els.length ≤ 60) (hG : L.sgs.length ≤ 60) : Calls Tryd.prog 85 #[.agg #[.string L.name, .slice L.aS L.secs.length L.cS, .slice L.aE L.els.length L.cE, .slice L.aJ L.jts.length L.cJ, .slice L.aG L.sgs.length L.cG, .slice L.aB L.bals.length L.cB]] w (RetN w) := by
  obtain ⟨i0, hi, hz0, hz1, hz2⟩ := info_parts inf_Str
  have HII := Lib.hid hi
  have HL := Lib.hid hL
  clear hi hL
  go_enter Tryd.func85, Tryd.ntmps85
  go_upto_region 2 with (fail)
  obtain ⟨w0, hw0⟩ : ∃ w0, w0 = (((w.alloc (.cells #[.string L.name, .slice L.aS L.secs.length L.cS, .slice L.aE L.els.length L.cE, .slice L.aJ L.jts.length L.cJ, .slice L.aG L.sgs.length L.cG, .slice L.aB L.bals.length L.cB] 28)).alloc (.cells #[.slice none 0 0, .slice none 0 0, .slice none 0 0] 136)).alloc (.cells #[.slice none 0 0, .slice none 0 0, .slice none 0 0] 136)) := ⟨_, rfl⟩
  rw [← hw0]
  have E0 : Hid (Ext w w0) := hw0 ▸ eal (eal (eal (Ext.refl _) _) _) _
  have L0 : Hid (LayAt w0 w.heap.size L) := hw0 ▸ CellsAt.keep (CellsAt.new rfl) (eal (eal (Ext.refl _) _) _)
  have Z0 : Hid (Own w0 (w.heap.size + 1) [.slice none 0 0, .slice none 0 0, .slice none 0 0]) := hw0 ▸ Own.keep (Own.new (by simp)) (eal (Ext.refl _) _)
  have O0 : Hid (Own w0 (w.heap.size + 1 + 1) [.slice none 0 0, .slice none 0 0, .slice none 0 0]) := hw0 ▸ Own.new (by simp)
  have hsz : w0.heap.size = w.heap.size + 1 + 1 + 1 := by rw [hw0]; simp
  clear hw0
  obtain ⟨l0, a0, a1, a2, a3, a4, a5⟩ := layAt_cells L0.out
  have b0 := O0.out.2.1 0 _ rfl
  have d0 := O0.out.2.2 0
  have b9 := O0.out.1
  apply wp_region_lit
  iterate 12 go_step
  refine wp_appL (u := w0) Strc_len Strc_one Tryd.underlying22 HII.out hz0 hz1 hz2 rfl (by decide) rfl rfl rfl OwnL.nil (Ext.refl _) L.secs L.aS L.cS (by simp [go_sem]) (HL.out.hS.keep E0.out) (by simp; omega) (by simp; unfold maxLen; omega) ?_
  intro v1 w1 H1
  rw [List.nil_append] at H1
  obtain ⟨A0, c0, rfl, hr0, hm0, hg0⟩ := OwnL.rdn Strc_len H1.out.1
  have HR0 := Lib.hid hr0
  have HG0 := Lib.hid hg0
  have X1 : Hid (Ext w0 w1) := H1.out.2.1
  have O1' := O0.out.keep X1.out
  clear hr0 hm0 hg0 b0 d0 b9
  have b0 := O1'.2.1 0 _ rfl
  have d0 := O1'.2.2 0
  have b9 := O1'.1
  go_upto_region 3 with (fail)
  obtain ⟨w2, hw2, HO2, HN2⟩ := setO 0 (.slice A0 L.secs.length c0) O1' (by simp)
  rw [← hw2]
  have E1 : Hid (Ext w w2) := eonly (etr E0.out X1.out) HN2 (by omega)
  have L1 : Hid (LayAt w2 w.heap.size L) := CellsAt.only (L0.out.keep X1.out) HN2 (by omega)
  have Z1 : Hid (Own w2 (w.heap.size + 1) [.slice none 0 0, .slice none 0 0, .slice none 0 0]) := (Z0.out.keep X1.out).only HN2 (by omega)
  have O1 : Hid (Own w2 (w.heap.size + 1 + 1) [.slice A0 L.secs.length c0, .slice none 0 0, .slice none 0 0]) := HO2
  have S1 : Hid (Rd w2 A0 1 Strc L.secs ∧ ∀ a, A0 = some a → a.block < w2.heap.size ∧ a.block ≠ w.heap.size + 1 + 1) := ⟨HR0.out.only HN2 (fun a ha => by have := HG0.out a ha; omega), fun a ha => ⟨by
    subst ha
    have := (H1.out.1.lt a.block rfl).2
    rw [HN2.size]; exact this, by have := HG0.out a ha; omega⟩⟩
  have HB0 : Hid (∀ a, A0 = some a → a.block ≠ w.heap.size + 1) := fun a ha => by have := HG0.out a ha; omega
  have HIE := Lib.hid (fun k x hs => (HL.out.iE k x hs).1)
  have HIG := Lib.hid (fun k x hs => (HL.out.iG k x hs).1)
  clear hw2 HO2 HN2 b0 d0 b9 l0 a0 a1 a2 a3 a4 a5 hsz O1'
  obtain ⟨l0, a0, a1, a2, a3, a4, a5⟩ := layAt_cells L1.out
  go_wp2
  clear l0 a0 a1 a2 a3 a4 a5
  go_loopg [18] L.els.length (fun g ix wr => ∃ (k : Nat) (v : Value) (ys : List ByteArray), ix = .int .i64 k ∧ k ≤ L.els.length ∧ g = L.els.length - k ∧ Hid (Ext w wr ∧ LayAt wr w.heap.size L ∧ Own wr (w.heap.size + 1) [.slice none 0 0, .slice none 0 0, .slice none 0 0] ∧ Own wr (w.heap.size + 1 + 1) [.slice A0 L.secs.length c0, v, .slice none 0 0] ∧ OwnL wr (w.heap.size + 1 + 1 + 1) 9 1 Strc v ys ∧ ys.length ≤ k ∧ (∀ (i : Nat) x, ys[i]? = some x → x.size ≤ maxLen) ∧ Rd wr A0 1 Strc L.secs ∧ ∀ a, A0 = some a → a.block < wr.heap.size ∧ a.block ≠ w.heap.size + 1 + 1 ∧ v.ownBlock ≠ some a.block))
  case atStart => exact ⟨0, .slice none 0 0, [], rfl, by omega, by omega, E1.out, L1.out, Z1.out, O1.out, OwnL.nil, by simp, fun i x h => by simp at h, S1.out.1, fun a ha => ⟨(S1.out.2 a ha).1, (S1.out.2 a ha).2, by simp [Value.ownBlock]⟩⟩
  case round =>
    obtain ⟨k, v, ys, rfl, hk, hg, H⟩ := hrel
    have HG := Lib.hid hg
    clear hg
    by_cases hlt : k < L.els.length
    · obtain ⟨b, off, x, hA, hs, hbs, c1, c2, c3, c4, c5, c6, c7⟩ := rd_el HL.out.hE H.out.1 hlt
      have HX : Hid (x.name.size ≤ maxLen) := HIE.out k x hs
      have n0 := H.out.2.2.2.1.2.1 1 _ rfl
      have n1 := H.out.2.2.2.1.2.2 1
      have n2 := H.out.2.2.2.1.1
      have n3 := lt_up1 n2
      have n4 := lt_up1 n3
      have E4 : Hid (Ext wr ((wr.alloc (.cells #[.string x.name, .int .i64 x.kind, .int .i64 x.len, .int .i64 x.grade, .int .i64 x.speed, .int .i64 x.slow, .int .i64 x.sec] 79)).alloc (.cells #[.string x.name] 9))) := eal (eal (Ext.refl _) _) _
      have HY : Hid (CellsAt ((wr.alloc (.cells #[.string x.name, .int .i64 x.kind, .int .i64 x.len, .int .i64 x.grade, .int .i64 x.speed, .int .i64 x.slow, .int .i64 x.sec] 79)).alloc (.cells #[.string x.name] 9)) (wr.heap.size + 1) (Strc x.name)) := CellsAt.new (by simp)
      have HAA := Lib.hid hA
      have hyl := H.out.2.2.2.2.2.1
      rw [hA]
      clear hs hA
      go_wp2_with (at_builtin
                   refine wp_app1 Strc_len Strc_one Tryd.underlying22 HII.out hz0 hz1 hz2 rfl (by decide) rfl rfl rfl (H.out.2.2.2.2.1.keep E4.out) x.name (wr.heap.size + 1) (by simp [go_sem]) HY.out (by omega) (by unfold maxLen; omega) (by have := E4.out.size; have := H.out.1.size; omega) ?_
                   intro v1 w1 h1 h2 h3
                   obtain ⟨zs, hzs⟩ : ∃ zs, zs = ys ++ [x.name] := ⟨_, rfl⟩
                   rw [← hzs] at h1
                   have HZS := Lib.hid hzs
                   obtain ⟨g, cap1, rfl, hcap, hgb, hown⟩ := h1.form (by rw [hzs]; simp)
                   have HV := Lib.hid h1
                   have HW := Lib.hid h2
                   have HO3 := Lib.hid h3
                   have HO1 : Own w1 (w.heap.size + 1 + 1) _ := (H.out.2.2.2.1.keep E4.out).grown h2 (fun e => by have := H.out.2.2.2.2.1.lt _ e; omega)
                   have HO := Lib.hid HO1
                   have p0 := HO1.2.1 1 _ rfl
                   have p1 := HO1.2.2 1
                   clear h1 h2 h3 HO1 hcap hgb hown hzs)
      rw [← HAA.out]
      obtain ⟨w4, hw4, HO4, HN4⟩ := setO 1 (.slice (some ⟨g, 0, none⟩) zs.length cap1) HO.out (by simp)
      rw [← hw4]
      have NB : ∀ b, b < w.heap.size + 1 + 1 + 1 → v.ownBlock ≠ some b := fun b hb e => by have := H.out.2.2.2.2.1.lt b e; omega
      have NV : (Value.slice (some ⟨g, 0, none⟩) zs.length cap1).ownBlock ≠ some (w.heap.size + 1 + 1) := fun e => by have := HV.out.lt _ e; omega
      have E5 : Hid (Ext w w4) := eonly (OwnL.app_below (etr H.out.1 E4.out) (etr H.out.1 E4.out).size (fun b hb => by have := H.out.2.2.2.2.1.lt b hb; omega) HW.out) HN4 (by omega)
      have L5 : Hid (LayAt w4 w.heap.size L) := ((H.out.2.1.keep E4.out).grown HW.out (NB _ (by omega))).only HN4 (by omega)
      have Z5 : Hid (Own w4 (w.heap.size + 1) [.slice none 0 0, .slice none 0 0, .slice none 0 0]) := ((H.out.2.2.1.keep E4.out).grown HW.out (NB _ (by omega))).only HN4 (by omega)
      have V5 : Hid (OwnL w4 (w.heap.size + 1 + 1 + 1) 9 1 Strc (.slice (some ⟨g, 0, none⟩) zs.length cap1) zs) := HV.out.only HN4 NV
      have F5 : Hid (zs.length ≤ k + 1 ∧ ∀ (i : Nat) x, zs[i]? = some x → x.size ≤ maxLen) := by
        rw [HZS.out]; exact ⟨by simp; omega, fine_snoc H.out.2.2.2.2.2.2.1 HX.out⟩
      have K0 : Hid (Rd w4 A0 1 Strc L.secs ∧ ∀ a, A0 = some a → a.block < w4.heap.size ∧ a.block ≠ w.heap.size + 1 + 1 ∧ (Value.slice (some ⟨g, 0, none⟩) zs.length cap1).ownBlock ≠ some a.block) :=
        ⟨((H.out.2.2.2.2.2.2.2.1.keep E4.out).grown HW.out (fun a ha => (H.out.2.2.2.2.2.2.2.2 a ha).2.2)).only HN4 (fun a ha => (H.out.2.2.2.2.2.2.2.2 a ha).2.1), fun a ha => ⟨by rw [HN4.size]; exact Nat.lt_of_lt_of_le (Nat.lt_of_lt_of_le (H.out.2.2.2.2.2.2.2.2 a ha).1 E4.out.size) HW.out.size, (H.out.2.2.2.2.2.2.2.2 a ha).2.1, fun e => by
          rcases HO3.out with h | h
          · rw [h] at e; exact (H.out.2.2.2.2.2.2.2.2 a ha).2.2 e
          · rw [h] at e; injection e with e; have := (H.out.2.2.2.2.2.2.2.2 a ha).1; have := E4.out.size; omega⟩⟩
      have O5 := Lib.hid HO4
      clear hw4 HO4 HN4 NB NV p0 p1 n0 n1 n2 n3 n4
      go_roundg (L.els.length - (k + 1))
      case measure => have := HG.out; omega
      case rel => exact ⟨k + 1, _, zs, by go_num, by omega, rfl, E5.out, L5.out, Z5.out, O5.out, V5.out, F5.out.1, F5.out.2, K0.out⟩
    · obtain ⟨A1, c1, rfl, hr1, hm1, hg1⟩ := OwnL.rdn Strc_len H.out.2.2.2.2.1
      obtain ⟨xs1, hxs1⟩ : ∃ xs1, xs1 = ys := ⟨_, rfl⟩
      subst hxs1
      have H1 : Hid (Ext w wr ∧ LayAt wr w.heap.size L ∧ Own wr (w.heap.size + 1) [.slice none 0 0, .slice none 0 0, .slice none 0 0] ∧ Own wr (w.heap.size + 1 + 1) [.slice A0 L.secs.length c0, .slice A1 xs1.length c1, .slice none 0 0] ∧ Rd wr A0 1 Strc L.secs ∧ (∀ a, A0 = some a → a.block < wr.heap.size ∧ a.block ≠ w.heap.size + 1 + 1) ∧ Rd wr A1 1 Strc xs1 ∧ (∀ a, A1 = some a → a.block < wr.heap.size ∧ a.block ≠ w.heap.size + 1 + 1)) :=
        ⟨H.out.1, H.out.2.1, H.out.2.2.1, H.out.2.2.2.1, H.out.2.2.2.2.2.2.2.1, fun a ha => ⟨(H.out.2.2.2.2.2.2.2.2 a ha).1, (H.out.2.2.2.2.2.2.2.2 a ha).2.1⟩, hr1, fun a ha => ⟨by subst ha; exact (H.out.2.2.2.2.1.lt a.block rfl).2, by have := hg1 a ha; omega⟩⟩
      have HF1 : Hid (Fine xs1) := ⟨by have := H.out.2.2.2.2.2.1; omega, H.out.2.2.2.2.2.2.1⟩
      have HBA : Hid ((∀ a, A0 = some a → a.block ≠ w.heap.size + 1) ∧ ∀ a, A1 = some a → a.block ≠ w.heap.size + 1) := ⟨HB0.out, fun a ha => by have := hg1 a ha; omega⟩
      clear hr1 hm1 hg1
      obtain ⟨l0, a0, a1, a2, a3, a4, a5⟩ := layAt_cells H1.out.2.1
      go_wp2
      clear l0 a0 a1 a2 a3 a4 a5
      go_loopg [33] L.sgs.length (fun g ix wr => ∃ (k : Nat) (v : Value) (ys : List ByteArray), ix = .int .i64 k ∧ k ≤ L.sgs.length ∧ g = L.sgs.length - k ∧ Hid (Ext w wr ∧ LayAt wr w.heap.size L ∧ Own wr (w.heap.size + 1) [.slice none 0 0, .slice none 0 0, .slice none 0 0] ∧ Own wr (w.heap.size + 1 + 1) [.slice A0 L.secs.length c0, .slice A1 xs1.length c1, v] ∧ OwnL wr (w.heap.size + 1 + 1 + 1) 9 1 Strc v ys ∧ ys.length ≤ k ∧ (∀ (i : Nat) x, ys[i]? = some x → x.size ≤ maxLen) ∧ (Rd wr A0 1 Strc L.secs ∧ ∀ a, A0 = some a → a.block < wr.heap.size ∧ a.block ≠ w.heap.size + 1 + 1 ∧ v.ownBlock ≠ some a.block) ∧ (Rd wr A1 1 Strc xs1 ∧ ∀ a, A1 = some a → a.block < wr.heap.size ∧ a.block ≠ w.heap.size + 1 + 1 ∧ v.ownBlock ≠ some a.block)))
      case atStart => exact ⟨0, .slice none 0 0, [], rfl, by omega, by omega, H1.out.1, H1.out.2.1, H1.out.2.2.1, H1.out.2.2.2.1, OwnL.nil, by simp, fun i x h => by simp at h, ⟨H1.out.2.2.2.2.1, fun a ha => ⟨(H1.out.2.2.2.2.2.1 a ha).1, (H1.out.2.2.2.2.2.1 a ha).2, by simp [Value.ownBlock]⟩⟩, H1.out.2.2.2.2.2.2.1, fun a ha => ⟨(H1.out.2.2.2.2.2.2.2 a ha).1, (H1.out.2.2.2.2.2.2.2 a ha).2, by simp [Value.ownBlock]⟩⟩
      case round =>
        obtain ⟨k, v, ys, rfl, hk, hg, H⟩ := hrel
        have HG := Lib.hid hg
        clear hg
        by_cases hlt : k < L.sgs.length
        · obtain ⟨b, off, x, hA, hs, hbs, c2, c3, c4, c5⟩ := rd_sg HL.out.hG H.out.1 hlt
          have HX : Hid (x.name.size ≤ maxLen) := HIG.out k x hs
          have n0 := H.out.2.2.2.1.2.1 2 _ rfl
          have n1 := H.out.2.2.2.1.2.2 2
          have n2 := H.out.2.2.2.1.1
          have n3 := lt_up1 n2
          have n4 := lt_up1 n3
          have E4 : Hid (Ext wr ((wr.alloc (.cells #[.string x.name, .int .i64 x.el, .int .i64 x.side, .int .i64 x.ovl] 145)).alloc (.cells #[.string x.name] 9))) := eal (eal (Ext.refl _) _) _
          have HY : Hid (CellsAt ((wr.alloc (.cells #[.string x.name, .int .i64 x.el, .int .i64 x.side, .int .i64 x.ovl] 145)).alloc (.cells #[.string x.name] 9)) (wr.heap.size + 1) (Strc x.name)) := CellsAt.new (by simp)
          have HAA := Lib.hid hA
          have hyl := H.out.2.2.2.2.2.1
          rw [hA]
          clear hs hA
          go_wp2_with (at_builtin
                       refine wp_app1 Strc_len Strc_one Tryd.underlying22 HII.out hz0 hz1 hz2 rfl (by decide) rfl rfl rfl (H.out.2.2.2.2.1.keep E4.out) x.name (wr.heap.size + 1) (by simp [go_sem]) HY.out (by omega) (by unfold maxLen; omega) (by have := E4.out.size; have := H.out.1.size; omega) ?_
                       intro v1 w1 h1 h2 h3
                       obtain ⟨zs, hzs⟩ : ∃ zs, zs = ys ++ [x.name] := ⟨_, rfl⟩
                       rw [← hzs] at h1
                       have HZS := Lib.hid hzs
                       obtain ⟨g, cap1, rfl, hcap, hgb, hown⟩ := h1.form (by rw [hzs]; simp)
                       have HV := Lib.hid h1
                       have HW := Lib.hid h2
                       have HO3 := Lib.hid h3
                       have HO1 : Own w1 (w.heap.size + 1 + 1) _ := (H.out.2.2.2.1.keep E4.out).grown h2 (fun e => by have := H.out.2.2.2.2.1.lt _ e; omega)
                       have HO := Lib.hid HO1
                       have p0 := HO1.2.1 2 _ rfl
                       have p1 := HO1.2.2 2
                       clear h1 h2 h3 HO1 hcap hgb hown hzs)
          rw [← HAA.out]
          obtain ⟨w4, hw4, HO4, HN4⟩ := setO 2 (.slice (some ⟨g, 0, none⟩) zs.length cap1) HO.out (by simp)
          rw [← hw4]
          have NB : ∀ b, b < w.heap.size + 1 + 1 + 1 → v.ownBlock ≠ some b := fun b hb e => by have := H.out.2.2.2.2.1.lt b e; omega
          have NV : (Value.slice (some ⟨g, 0, none⟩) zs.length cap1).ownBlock ≠ some (w.heap.size + 1 + 1) := fun e => by have := HV.out.lt _ e; omega
          have E5 : Hid (Ext w w4) := eonly (OwnL.app_below (etr H.out.1 E4.out) (etr H.out.1 E4.out).size (fun b hb => by have := H.out.2.2.2.2.1.lt b hb; omega) HW.out) HN4 (by omega)
          have L5 : Hid (LayAt w4 w.heap.size L) := ((H.out.2.1.keep E4.out).grown HW.out (NB _ (by omega))).only HN4 (by omega)
          have Z5 : Hid (Own w4 (w.heap.size + 1) [.slice none 0 0, .slice none 0 0, .slice none 0 0]) := ((H.out.2.2.1.keep E4.out).grown HW.out (NB _ (by omega))).only HN4 (by omega)
          have V5 : Hid (OwnL w4 (w.heap.size + 1 + 1 + 1) 9 1 Strc (.slice (some ⟨g, 0, none⟩) zs.length cap1) zs) := HV.out.only HN4 NV
          have F5 : Hid (zs.length ≤ k + 1 ∧ ∀ (i : Nat) x, zs[i]? = some x → x.size ≤ maxLen) := by
            rw [HZS.out]; exact ⟨by simp; omega, fine_snoc H.out.2.2.2.2.2.2.1 HX.out⟩
          have K0 : Hid (Rd w4 A0 1 Strc L.secs ∧ ∀ a, A0 = some a → a.block < w4.heap.size ∧ a.block ≠ w.heap.size + 1 + 1 ∧ (Value.slice (some ⟨g, 0, none⟩) zs.length cap1).ownBlock ≠ some a.block) :=
            ⟨((H.out.2.2.2.2.2.2.2.1.1.keep E4.out).grown HW.out (fun a ha => (H.out.2.2.2.2.2.2.2.1.2 a ha).2.2)).only HN4 (fun a ha => (H.out.2.2.2.2.2.2.2.1.2 a ha).2.1), fun a ha => ⟨by rw [HN4.size]; exact Nat.lt_of_lt_of_le (Nat.lt_of_lt_of_le (H.out.2.2.2.2.2.2.2.1.2 a ha).1 E4.out.size) HW.out.size, (H.out.2.2.2.2.2.2.2.1.2 a ha).2.1, fun e => by
              rcases HO3.out with h | h
              · rw [h] at e; exact (H.out.2.2.2.2.2.2.2.1.2 a ha).2.2 e
              · rw [h] at e; injection e with e; have := (H.out.2.2.2.2.2.2.2.1.2 a ha).1; have := E4.out.size; omega⟩⟩
          have K1 : Hid (Rd w4 A1 1 Strc xs1 ∧ ∀ a, A1 = some a → a.block < w4.heap.size ∧ a.block ≠ w.heap.size + 1 + 1 ∧ (Value.slice (some ⟨g, 0, none⟩) zs.length cap1).ownBlock ≠ some a.block) :=
            ⟨((H.out.2.2.2.2.2.2.2.2.1.keep E4.out).grown HW.out (fun a ha => (H.out.2.2.2.2.2.2.2.2.2 a ha).2.2)).only HN4 (fun a ha => (H.out.2.2.2.2.2.2.2.2.2 a ha).2.1), fun a ha => ⟨by rw [HN4.size]; exact Nat.lt_of_lt_of_le (Nat.lt_of_lt_of_le (H.out.2.2.2.2.2.2.2.2.2 a ha).1 E4.out.size) HW.out.size, (H.out.2.2.2.2.2.2.2.2.2 a ha).2.1, fun e => by
              rcases HO3.out with h | h
              · rw [h] at e; exact (H.out.2.2.2.2.2.2.2.2.2 a ha).2.2 e
              · rw [h] at e; injection e with e; have := (H.out.2.2.2.2.2.2.2.2.2 a ha).1; have := E4.out.size; omega⟩⟩
          have O5 := Lib.hid HO4
          clear hw4 HO4 HN4 NB NV p0 p1 n0 n1 n2 n3 n4
          go_roundg (L.sgs.length - (k + 1))
          case measure => have := HG.out; omega
          case rel => exact ⟨k + 1, _, zs, by go_num, by omega, rfl, E5.out, L5.out, Z5.out, O5.out, V5.out, F5.out.1, F5.out.2, K0.out, K1.out⟩

        · have n0 := H.out.2.2.2.1.2.1 0 _ rfl
          have n1 := H.out.2.2.2.1.2.1 1 _ rfl
          obtain ⟨A2, c2, rfl, hr2, hm2, hg2⟩ := OwnL.rdn Strc_len H.out.2.2.2.2.1
          have n2 := H.out.2.2.2.1.2.1 2 _ rfl
          have n3 := H.out.2.2.2.1.1
          have m0 := H.out.2.2.1.2.1 0 _ rfl
          have m1 := H.out.2.2.1.2.1 1 _ rfl
          have m2 := H.out.2.2.1.2.1 2 _ rfl
          have m3 := H.out.2.2.1.2.2 0
          have m4 := H.out.2.2.1.2.2 1
          have m5 := H.out.2.2.1.2.2 2
          have m6 := H.out.2.2.1.1
          have HR2 := Lib.hid hr2
          have HG2 := Lib.hid hg2
          clear hr2 hm2 hg2
          go_wp2
          obtain ⟨w8, hw8, HO8, HN8⟩ := set3' (.slice A0 L.secs.length c0) (.slice A1 xs1.length c1) (.slice A2 ys.length c2) H.out.2.2.1 rfl
          rw [← hw8]
          have r0 := HO8.2.1 0 _ rfl
          have r1 := HO8.2.1 1 _ rfl
          have r2 := HO8.2.1 2 _ rfl
          refine bodyPost_ret (v := .agg #[.slice A0 L.secs.length c0, .slice A1 xs1.length c1, .slice A2 ys.length c2]) (by simp [results, Tryd.results85, go_sem, r0, r1, r2]) rfl ⟨A0, c0, L.secs, A1, c1, xs1, A2, c2, ys, rfl, H.out.2.2.2.2.2.2.2.1.1.only HN8 (fun a ha => ?_), H.out.2.2.2.2.2.2.2.2.1.only HN8 (fun a ha => ?_), HR2.out.only HN8 (fun a ha => by have := HG2.out a ha; omega), ⟨hS, fun i x h => HL.out.iS i x h⟩, HF1.out, ⟨by have := H.out.2.2.2.2.2.1; omega, H.out.2.2.2.2.2.2.1⟩, eonly H.out.1 HN8 (by omega)⟩
          · exact HBA.out.1 a ha
          · exact HBA.out.2 a ha
end Go.Proofs.YticonpjkcocgeaaDoor

set_option linter.unusedVariables false
set_option linter.unusedSimpArgs false
set_option maxRecDepth 100000
namespace Go.Proofs.YticonpjkcocgeaaDoor
open Go.ChangeShapes Go.WideShapes Go.ChangeAt Go.RowKit
open Sg

/-- append of a list, at the operation. -/
theorem wp_appO {α : Type} {P : Program} {u w : World} {o : Oper} {a : Act} {K : Act → World → Prop} {Q : Exit → Act → World → Prop} {e : TypeId} {k bytes : Nat} {enc : α → List Value} {v : Value} {xs : List α} {t : TypeId} {i : TypeInfo} {z : Value} {s x : Operand}
    (hk : ∀ x, (enc x).length = k) (hone : ∀ x, ∀ u ∈ enc x, u.oneCell' = true) (ht : P.underlying t = some (.slice e)) (hi : P.info? e = some i) (hz : i.zero = some z) (hsize : i.size = k) (hby : i.bytes = bytes) (hzs : z.cells.size = k) (hsz : 0 < k)
    (ho : o.op = .call { callee := .builtin .append, args := #[s, x], argTypes := #[t, t] }) (hs : a.eval s = v) (hown : OwnL w u.heap.size e k enc v xs) (hE : Ext u w) (ys : List α) (A : Option Addr) (c : Nat) (hx : a.eval x = .slice A ys.length c) (hr : Rd w A k enc ys)
    (hlen : (xs.length + ys.length) * bytes ≤ 140737488355328) (hlen2 : xs.length + ys.length ≤ maxLen)
    (h : ∀ v' w', Hid (OwnL w' u.heap.size e k enc v' (xs ++ ys) ∧ Ext u w' ∧ w.grownBy w' v.ownBlock) → K (a.put o.dst v') w') : o.wp P a w K Q := by
  have hown2 : w.ownsRow u.heap.size e k v xs.length (xs.flatMap enc) := hown
  obtain ⟨v', w', hrun, h2, h3, h4⟩ : ∃ v' w', (Builtin.append_ #[t, t] o.type #[v, .slice A ys.length c]).run P w = .ok v' w' ∧ OwnL w' u.heap.size e k enc v' (xs ++ ys) ∧ w.grownBy w' v.ownBlock ∧ (v'.ownBlock = v.ownBlock ∨ v'.ownBlock = some w.heap.size) := by
    by_cases hy : ys = []
    · subst hy
      rcases A with _ | ad
      · exact ⟨v, w, run_append_of_nil w u.heap.size t o.type e i k ht hi v _ _ hown2 c, by simpa using hown, World.grownBy.refl w _, .inl rfl⟩
      · obtain ⟨v', w', hrun, h2, h3, _, h5⟩ := run_append_own_at (P := P) w u.heap.size t o.type e i z k bytes ht hi hz hsize hby hzs hsz v xs.length _ hown2 ad 0 c [] (by simp) (fun j u hj => by simp at hj) (fun u hu => by cases hu) (by simpa using hlen2) (by simpa using hlen) (esz hE)
        exact ⟨v', w', hrun, by unfold OwnL; simpa using h2, h3, h5⟩
    · have hp : 0 < ys.length := List.length_pos_iff.2 hy
      obtain ⟨b, off, rfl, hb, hc⟩ := hr hp
      obtain ⟨v', w', hrun, h2, h3, _, h5⟩ := run_append_own_at (P := P) w u.heap.size t o.type e i z k bytes ht hi hz hsize hby hzs hsz v xs.length _ hown2 ⟨b, off, none⟩ ys.length c (ys.flatMap enc) (flat_len' hk ys) (flat_cells hk hc hsz) (flat_one hone ys) hlen2 hlen (esz hE)
      exact ⟨v', w', hrun, by unfold OwnL; rw [List.length_append, List.flatMap_append]; exact h2, h3, h5⟩
  unfold Oper.wp execOp
  simp only [ho, resolve, invoke, builtin, Sem.run_bind, Sem.run_pure, Result.andThen_ok, List.map_toArray, List.map_cons, List.map_nil, hs, hx, hrun]
  exact h v' w' ⟨h2, OwnL.app_below hE (esz hE) (fun b hb => (hown.lt b hb).1) h3, h3⟩
theorem fine_app {xs ys : List ByteArray} (h : ∀ x ∈ xs, x.size ≤ maxLen) (g : ∀ x ∈ ys, x.size ≤ maxLen) : ∀ x ∈ xs ++ ys, x.size ≤ maxLen := fun x hx => by
  rcases List.mem_append.1 hx with hm | hm
  · exact h x hm
  · exact g x hm
theorem fine_mem {xs : List ByteArray} (h : Fine xs) : ∀ x ∈ xs, x.size ≤ maxLen := fun x hx => by
  obtain ⟨i, hi, rfl⟩ := List.getElem_of_mem hx
  exact h.2 i _ (List.getElem?_eq_getElem hi)
set_option maxHeartbeats 16000000 in
theorem named_any (L : Lay) (w : World) (hL : LayOk w L) (hF : FewL L) : Calls Tryd.prog 57 #[.agg #[.string L.name, .slice L.aS L.secs.length L.cS, .slice L.aE L.els.length L.cE, .slice L.aJ L.jts.length L.cJ, .slice L.aG L.sgs.length L.cG, .slice L.aB L.bals.length L.cB]] w (RetE (fun _ => True) w) := by
  obtain ⟨i0, hi, hz0, hz1, hz2⟩ := info_parts inf_Str
  have HII := Lib.hid hi
  have HL := Lib.hid hL
  have HF := Lib.hid hF
  clear hi hL hF
  go_enter Tryd.func57, Tryd.ntmps57
  go_upto_region 3 with (fail)
  all_goals try (go_ret; exact RetE.mk trivial (eal (Ext.refl _) _))
  go_upto_region 4 with (go_at_call 85; refine (names_any L _ (HL.out.keep (eal (Ext.refl _) _)) HF.out.1 HF.out.2.1 HF.out.2.2.2.1).mono ?_; rintro e w1 ⟨A0, c0, x0, A1, c1, x1, A2, c2, x2, rfl, hr0, hr1, hr2, hf0, hf1, hf2, hb⟩; have HR0 := Lib.hid hr0; have HR1 := Lib.hid hr1; have HR2 := Lib.hid hr2; have HF0 := Lib.hid hf0; have HF1 := Lib.hid hf1; have HF2 := Lib.hid hf2; have HB1 := Lib.hid hb; have HL1 : Hid (LayAt w1 w.heap.size L) := CellsAt.keep (CellsAt.new rfl) hb; clear hr0 hr1 hr2 hf0 hf1 hf2 hb)
  obtain ⟨w2, hw2⟩ : ∃ w2, w2 = w1.alloc (.cells #[.slice A0 x0.length c0, .slice A1 x1.length c1, .slice A2 x2.length c2] 136) := ⟨_, rfl⟩
  rw [← hw2]
  have X2 : Hid (Ext w1 w2) := hw2 ▸ eal (Ext.refl _) _
  have E2 : Hid (Ext w w2) := etr (etr (eal (Ext.refl _) _) HB1.out) X2.out
  have C2 : Hid (CellsAt w2 w1.heap.size [.slice A0 x0.length c0, .slice A1 x1.length c1, .slice A2 x2.length c2]) := hw2 ▸ CellsAt.new rfl
  have L2 : Hid (LayAt w2 w.heap.size L) := HL1.out.keep X2.out
  clear hw2
  have b0 := C2.out.2 0 _ rfl
  have b1 := C2.out.2 1 _ rfl
  have b2 := C2.out.2 2 _ rfl
  have b3 := C2.out.1
  obtain ⟨l0, a0, a1, a2, a3, a4, a5⟩ := layAt_cells L2.out
  refine wp_region_monoB [0, 1, 3, 4, 6, 7, 9, 10, 13] 5 (by kernel_rfl) (by kernel_rfl) (fun _ _ d _ _ h => by cases d <;> exact h) (by kernel_rfl) (by kernel_rfl) ?_
  repeat (refine wpE_step rfl (fun K hK => ?_); go_simp; (refine hK _ ?_; clear hK K))
  refine wpE_nil ?_
  intro x
  refine wpAnyB_ready (rs := [2]) (by kernel_rfl) (by simp) (AllB.cons rfl (fun K hK => ?_) AllB.nil)
  go_simp
  refine hK _ _ (ext_below (eal (Ext.refl _) _) (esz x.is)) (fun z => ?_)
  clear hK K
  have HO : Hid (OwnL z.val w2.heap.size 9 1 Strc (.slice (some ⟨x.val.heap.size, 0, none⟩) 1 1) [L.name]) := OwnL.keep (World.ownsRow_lit x.val #[.string L.name] 1 (esz x.is) (by first | rfl | simp | decide) (by first | rfl | simp [Strc] | decide)) z.is
  have EZ : Hid (Ext w2 z.val) := etr (eal x.is _) z.is
  refine wpAnyB_ready (rs := [5]) (by kernel_rfl) (by simp) (AllB.cons rfl (fun K hK => ?_) AllB.nil)
  rw [if_pos (by rfl)]
  refine wp_appO (u := w2) Strc_len Strc_one Tryd.underlying22 HII.out hz0 hz1 hz2 rfl (by decide) rfl rfl HO.out EZ.out x0 A0 c0 rfl (HR0.out.keep (etr X2.out EZ.out)) (by have h0 := HF0.out.1; have h1 := HF1.out.1; have h2 := HF2.out.1; simp; omega) (by have h0 := HF0.out.1; have h1 := HF1.out.1; have h2 := HF2.out.1; unfold maxLen; simp; omega) ?_
  intro v1 w3 H3
  refine hK _ _ (OwnL.app_below (Below.refl _ _) EZ.out.size (fun b hb => (HO.out.lt b hb).1) H3.out.2.2) (fun z3 => ?_)
  clear hK K
  have Oa := Lib.hid (H3.out.1.keep z3.is)
  have Ea : Hid (Ext w2 z3.val) := etr H3.out.2.1 z3.is
  refine wpAnyB_ready (rs := [8]) (by kernel_rfl) (by simp) (AllB.cons rfl (fun K hK => ?_) AllB.nil)
  rw [if_pos (by rfl)]
  refine wp_appO (u := w2) Strc_len Strc_one Tryd.underlying22 HII.out hz0 hz1 hz2 rfl (by decide) rfl rfl Oa.out Ea.out x1 A1 c1 rfl (HR1.out.keep (etr X2.out Ea.out)) (by have h0 := HF0.out.1; have h1 := HF1.out.1; have h2 := HF2.out.1; simp; omega) (by have h0 := HF0.out.1; have h1 := HF1.out.1; have h2 := HF2.out.1; unfold maxLen; simp; omega) ?_
  intro v2 w4 H4
  refine hK _ _ (OwnL.app_below (Below.refl _ _) Ea.out.size (fun b hb => (Oa.out.lt b hb).1) H4.out.2.2) (fun z4 => ?_)
  clear hK K
  have Ob := Lib.hid (H4.out.1.keep z4.is)
  have Eb : Hid (Ext w2 z4.val) := etr H4.out.2.1 z4.is
  refine wpAnyB_ready (rs := [11]) (by kernel_rfl) (by simp) (AllB.cons rfl (fun K hK => ?_) AllB.nil)
  rw [if_pos (by rfl)]
  refine wp_appO (u := w2) Strc_len Strc_one Tryd.underlying22 HII.out hz0 hz1 hz2 rfl (by decide) rfl rfl Ob.out Eb.out x2 A2 c2 rfl (HR2.out.keep (etr X2.out Eb.out)) (by have h0 := HF0.out.1; have h1 := HF1.out.1; have h2 := HF2.out.1; simp; omega) (by have h0 := HF0.out.1; have h1 := HF1.out.1; have h2 := HF2.out.1; unfold maxLen; simp; omega) ?_
  intro v3 w5 H5
  refine hK _ _ (OwnL.app_below (Below.refl _ _) Eb.out.size (fun b hb => (Ob.out.lt b hb).1) H5.out.2.2) (fun z5 => ?_)
  clear hK K
  have Oc := Lib.hid (H5.out.1.keep z5.is)
  have Ec : Hid (Ext w2 z5.val) := etr H5.out.2.1 z5.is
  obtain ⟨ys, hys⟩ : ∃ ys, ys = [L.name] ++ x0 ++ x1 ++ x2 := ⟨_, rfl⟩
  have HFY : Hid (ys.length ≤ 400 ∧ ∀ x ∈ ys, x.size ≤ maxLen) := by
    rw [hys]
    refine ⟨by have h0 := HF0.out.1; have h1 := HF1.out.1; have h2 := HF2.out.1; simp; omega, fine_app (fine_app (fine_app (fun x hx => by simp at hx; subst hx; exact HL.out.hN) (fine_mem HF0.out)) (fine_mem HF1.out)) (fine_mem HF2.out)⟩
  have hO := Oc.out
  rw [← hys] at hO
  obtain ⟨A3, c3, rfl, hr3, hm3⟩ := hO.rd Strc_len
  have HR3 := Lib.hid hr3
  clear hr3 hm3 hO hys
  refine wpAnyB_ready (rs := [12]) (by kernel_rfl) (by simp) (AllB.cons rfl (fun K hK => ?_) AllB.nil)
  go_simp
  refine hK _ _ (Below.refl _ _) (fun z6 => ?_)
  clear hK K
  refine wpAnyB_done (by kernel_rfl) ?_ _
  obtain ⟨w6, hw6⟩ : ∃ w6, w6 = z6.val := ⟨_, rfl⟩
  have X6 : Hid (Ext w2 w6) := hw6 ▸ etr Ec.out z6.is
  have R6 : Hid (Rd w6 A3 1 Strc ys) := hw6 ▸ HR3.out.keep z6.is
  rw [← hw6]
  clear hw6 b0 b1 b2 b3 l0 a0 a1 a2 a3 a4 a5
  have hyl : ys.length ≤ 400 := HFY.out.1
  go_wp2
  go_loopg [55] ys.length (fun g ix wr => ∃ k : Nat, ix = .int .i64 k ∧ k ≤ ys.length ∧ g = ys.length - k ∧ Hid (Ext w6 wr))
  case atStart => exact ⟨0, rfl, by omega, by omega, Ext.refl _⟩
  case round =>
    obtain ⟨k, rfl, hk, hg, H⟩ := hrel
    have HG := Lib.hid hg
    clear hg
    by_cases hlt : k < ys.length
    · obtain ⟨b, off, s, rfl, hs, hbs, d0, d1⟩ := rd_tx R6.out H.out hlt
      have HSS : Hid (s.size ≤ maxLen) := HFY.out.2 s (List.mem_of_getElem? hs)
      clear hs
      go_wp2_with (go_at_call 69; refine (name_any s _ HSS.out).mono ?_; rintro e w7 ⟨bb, rfl, _, hb7⟩; have H7 := Lib.hid hb7; clear hb7)
      all_goals first | (go_ret; exact RetE.mk trivial (etr (etr (etr E2.out X6.out) H.out) H7.out)) | (go_roundg (ys.length - (k + 1)))
      all_goals first | (have := HG.out; omega) | exact ⟨k + 1, by go_num, by omega, rfl, etr H.out H7.out⟩
    · have b0 := (C2.out.keep (etr X6.out H.out)).2 0 _ rfl
      have b1 := (C2.out.keep (etr X6.out H.out)).2 1 _ rfl
      have b2 := (C2.out.keep (etr X6.out H.out)).2 2 _ rfl
      have b3 := (C2.out.keep (etr X6.out H.out)).1
      have ZZ : Hid (Ext w2 wr) := etr X6.out H.out
      have HFF : Hid (x0.length ≤ maxLen ∧ x1.length ≤ maxLen ∧ x2.length ≤ maxLen) := by
        have h0 := HF0.out.1; have h1 := HF1.out.1; have h2 := HF2.out.1
        unfold maxLen; exact ⟨by omega, by omega, by omega⟩
      go_wp2_with (go_at_call 86; refine (texts_any _ _ _ _ ?_ ?_).mono ?_; (first | exact HFF.out.1 | exact HFF.out.2.1 | exact HFF.out.2.2); (first | exact HR0.out.keep (etr X2.out ZZ.out) | exact HR1.out.keep (etr X2.out ZZ.out) | exact HR2.out.keep (etr X2.out ZZ.out)); rintro e w7 ⟨bb, rfl, _, hb7⟩; have ZZ : Hid (Ext w2 w7) := etr ZZ.out hb7; have b0 := (C2.out.keep ZZ.out).2 0 _ rfl; have b1 := (C2.out.keep ZZ.out).2 1 _ rfl; have b2 := (C2.out.keep ZZ.out).2 2 _ rfl; have b3 := (C2.out.keep ZZ.out).1; clear hb7)
      all_goals go_ret
      all_goals exact RetE.mk trivial (etr E2.out ZZ.out)
end Go.Proofs.YticonpjkcocgeaaDoor

set_option linter.unusedVariables false
set_option linter.unusedSimpArgs false
set_option maxRecDepth 100000
namespace Go.Proofs.YticonpjkcocgeaaDoor
open Go.ChangeShapes Go.WideShapes Go.ChangeAt Go.RowKit
open Sg

theorem inf_En : (Tryd.prog.info? 110).map (fun i => (i.zero, i.size, i.bytes)) = some (some (.agg #[.int .i64 0, .int .i64 0]), 2, 16) := by kernel_rfl
/-- The joints' ends are at elements. -/
def JtsOk (els : List Elm) (jts : List Jnt) : Prop := ∀ (k : Nat) j, jts[k]? = some j → hasEl els j.ae ∧ hasEl els j.be
theorem exist_ab (L : Lay) (a b : Int) (w : World) (hL : LayOk w L) : Calls Tryd.prog 89 #[.agg #[.string L.name, .slice L.aS L.secs.length L.cS, .slice L.aE L.els.length L.cE, .slice L.aJ L.jts.length L.cJ, .slice L.aG L.sgs.length L.cG, .slice L.aB L.bals.length L.cB], .agg #[.int .i64 a, .int .i64 b]] w fun r w' => r = .returned (.bool (exB L.els ⟨a, b⟩)) ∧ Below w.heap.size w w' := ends_exist L ⟨a, b⟩ w hL
theorem lt_up2 {a b : Nat} (h : a < b) : a < b + 1 := by omega
set_option maxHeartbeats 16000000 in
theorem elements_any (L : Lay) (w : World) (hL : LayOk w L) (hF : FewL L) : Calls Tryd.prog 58 #[.agg #[.string L.name, .slice L.aS L.secs.length L.cS, .slice L.aE L.els.length L.cE, .slice L.aJ L.jts.length L.cJ, .slice L.aG L.sgs.length L.cG, .slice L.aB L.bals.length L.cB]] w (RetE (fun n => n = 0 → ElsOk L.els ∧ JtsOk L.els L.jts) w) := by
  obtain ⟨i0, hi, hz0, hz1, hz2⟩ := info_parts inf_En
  have HII := Lib.hid hi
  have HL := Lib.hid hL
  have HF := Lib.hid hF
  clear hi hL hF
  have hf1 := HF.out.1
  have hf2 := HF.out.2.1
  have hf3 := HF.out.2.2.1
  go_enter Tryd.func58, Tryd.ntmps58
  go_wp2
  go_loopg [12] L.els.length (fun g ix wr => ∃ k : Nat, ix = .int .i64 k ∧ k ≤ L.els.length ∧ g = L.els.length - k ∧ Hid (Ext w wr ∧ LayAt wr w.heap.size L ∧ ∀ (i : Nat) x, i < k → L.els[i]? = some x → RightP x))
  case atStart => exact ⟨0, rfl, by omega, by omega, eal (Ext.refl _) _, CellsAt.new rfl, fun i x h => absurd h (by omega)⟩
  case round =>
    obtain ⟨k, rfl, hk, hg, H⟩ := hrel
    have HG := Lib.hid hg
    clear hg
    obtain ⟨l0, a0, a1, a2, a3, a4, a5⟩ := layAt_cells H.out.2.1
    have l1 := lt_up2 l0
    by_cases hlt : k < L.els.length
    · obtain ⟨b, off, x, hA, hs, hbs, c0, c1, c2, c3, c4, c5, c6⟩ := rd_el HL.out.hE H.out.1 hlt
      have HS := Lib.hid hs
      have HA := Lib.hid hA
      have E4 : Hid (Ext wr (wr.alloc (.cells #[.string x.name, .int .i64 x.kind, .int .i64 x.len, .int .i64 x.grade, .int .i64 x.speed, .int .i64 x.slow, .int .i64 x.sec] 79))) := eal (Ext.refl _) _
      have HRT : Hid (∀ w', Calls Tryd.prog 87 #[.agg #[.string L.name, .slice L.aS L.secs.length L.cS, .slice (some ⟨b, off, none⟩) L.els.length L.cE, .slice L.aJ L.jts.length L.cJ, .slice L.aG L.sgs.length L.cG, .slice L.aB L.bals.length L.cB], .agg #[.string x.name, .int .i64 x.kind, .int .i64 x.len, .int .i64 x.grade, .int .i64 x.speed, .int .i64 x.slow, .int .i64 x.sec]] w' (RetB (fun b => b = true → RightP x) w')) := fun w' => by
        have := right_any L x w'
        rw [hA] at this
        exact this
      rw [hA] at a2 ⊢
      clear hs hA
      go_wp2_with (go_at_call 87; refine (HRT.out _).mono ?_; rintro e w7 ⟨bb, rfl, hp, hb7⟩; have H7 := Lib.hid hb7; have HP := Lib.hid hp; clear hb7 hp; cases bb)
      · go_ret
        exact RetE.mk (fun h => by cases h) (etr (etr H.out.1 E4.out) H7.out)
      · rw [← HA.out]
        go_roundg (L.els.length - (k + 1))
        case measure => have := HG.out; omega
        case rel => exact ⟨k + 1, by go_num, by omega, rfl, etr (etr H.out.1 E4.out) H7.out, H.out.2.1.keep (etr E4.out H7.out), fun i y hi hy => by
          by_cases e : i = k
          · subst e; rw [HS.out] at hy; cases hy; exact HP.out (by simp)
          · exact H.out.2.2 i y (by omega) hy⟩
    · have HE : Hid (ElsOk L.els) := fun i x hx => H.out.2.2 i x (by have := (List.getElem?_eq_some_iff.1 hx).1; omega) hx
      have HH := Lib.hid (And.intro H.out.1 H.out.2.1)
      go_wp2
      clear a0 a1 a2 a3 a4 a5 l0 l1
      go_loopg [24] L.secs.length (fun g ix wr => ∃ k : Nat, ix = .int .i64 k ∧ k ≤ L.secs.length ∧ g = L.secs.length - k ∧ Hid (Ext w wr ∧ LayAt wr w.heap.size L))
      case atStart => exact ⟨0, rfl, by omega, by omega, HH.out⟩
      case round =>
        obtain ⟨k, rfl, hk, hg, H⟩ := hrel
        have HG := Lib.hid hg
        clear hg
        obtain ⟨l0, a0, a1, a2, a3, a4, a5⟩ := layAt_cells H.out.2
        by_cases hlt : k < L.secs.length
        · go_wp2_with (go_at_call 88; refine (members_any L (k : Int) _ (HL.out.keep H.out.1) (by omega)).mono ?_; rintro e w7 ⟨Am, nm, cm, rfl, hb7⟩; have H7 := Lib.hid hb7; clear hb7)
          all_goals first | (go_ret; exact RetE.mk (fun h => by cases h) (etr H.out.1 H7.out)) | (go_roundg (L.secs.length - (k + 1)))
          all_goals first | (have := HG.out; omega) | exact ⟨k + 1, by go_num, by omega, rfl, etr H.out.1 H7.out, H.out.2.keep H7.out⟩
        · have HH := Lib.hid H.out
          go_wp2
          clear a0 a1 a2 a3 a4 a5 l0
          go_loopg [6, 36] L.jts.length (fun g x6 ix wr => ∃ (k : Nat) (xs : List Sg.End), ix = .int .i64 k ∧ k ≤ L.jts.length ∧ g = L.jts.length - k ∧ Hid (Ext w wr ∧ LayAt wr w.heap.size L ∧ OwnL wr w.heap.size 110 2 Enc x6 xs ∧ x6.ownBlock ≠ some w.heap.size ∧ xs.length ≤ 2 * k ∧ ∀ (i : Nat) j, i < k → L.jts[i]? = some j → hasEl L.els j.ae ∧ hasEl L.els j.be))
          case atStart => exact ⟨0, [], rfl, by omega, by omega, HH.out.1, HH.out.2, OwnL.nil, by simp [Value.ownBlock], by simp, fun i x h => absurd h (by omega)⟩
          case round =>
            obtain ⟨k, xs, rfl, hk, hg, H⟩ := hrel
            have HG := Lib.hid hg
            clear hg
            obtain ⟨l0, a0, a1, a2, a3, a4, a5⟩ := layAt_cells H.out.2.1
            have l1 := lt_up2 l0
            have hxl := H.out.2.2.2.2.1
            by_cases hlt : k < L.jts.length
            · obtain ⟨b, off, j, hA, hs, hbs, c0, c1, c2, c3⟩ := rd_jt HL.out.hJ H.out.1 hlt
              have HS := Lib.hid hs
              have HA := Lib.hid hA
              have E4 : Hid (Ext w (wr.alloc (.cells #[.int .i64 j.ae, .int .i64 j.as_, .int .i64 j.be, .int .i64 j.bs] 112))) := eal H.out.1 _
              have X4 : Hid (Ext wr (wr.alloc (.cells #[.int .i64 j.ae, .int .i64 j.as_, .int .i64 j.be, .int .i64 j.bs] 112))) := eal (Ext.refl _) _
              rw [hA]
              clear hs hA
              have key : (exB L.els ⟨j.ae, j.as_⟩ = false) ∨ (exB L.els ⟨j.ae, j.as_⟩ = true ∧ exB L.els ⟨j.be, j.bs⟩ = false) ∨ (exB L.els ⟨j.ae, j.as_⟩ = true ∧ exB L.els ⟨j.be, j.bs⟩ = true ∧ (((j.ae == j.be) = true ∧ (j.as_ == j.bs) = true) ∨ ((j.ae == j.be) = true ∧ (j.as_ == j.bs) = false) ∨ (j.ae == j.be) = false)) := by
                cases exB L.els ⟨j.ae, j.as_⟩ <;> cases exB L.els ⟨j.be, j.bs⟩ <;> cases (j.ae == j.be) <;> cases (j.as_ == j.bs) <;> simp
              rcases key with q1 | ⟨q1, q2⟩ | ⟨q1, q2, ⟨q3, q4⟩ | q3⟩
              iterate 3
                · go_wp2_with (first
                    | (go_at_call 89; refine (to_after (exist_ab L _ _ _ (HL.out.keep E4.out))).mono ?_; rintro e w' ⟨y, rfl, rfl⟩)
                    | (go_at_call 89; refine (in_after _ (exist_ab L _ _ _ (HL.out.keep (etr E4.out (After.is _))))).mono ?_; rintro e w' ⟨y, rfl, rfl⟩))
                  go_ret
                  exact RetE.mk (fun h => by cases h) (etr E4.out (After.is _))
              · have HQ := Lib.hid (And.intro (exB_has q1) (exB_has q2))
                have HNX : Hid (∀ (i : Nat) y, i < k + 1 → L.jts[i]? = some y → hasEl L.els y.ae ∧ hasEl L.els y.be) := fun i y hi hy => by
                  by_cases e : i = k
                  · subst e; rw [HS.out] at hy; cases hy; exact HQ.out
                  · exact H.out.2.2.2.2.2 i y (by omega) hy
                rcases q3 with ⟨q3, q4⟩ | q3
                iterate 2
                  · go_upto_region 19 with (first
                      | (go_at_call 89; refine (to_after (exist_ab L _ _ _ (HL.out.keep E4.out))).mono ?_; rintro e w' ⟨y, rfl, rfl⟩)
                      | (go_at_call 89; refine (in_after _ (exist_ab L _ _ _ (HL.out.keep (etr E4.out (After.is _))))).mono ?_; rintro e w' ⟨y, rfl, rfl⟩))
                    obtain ⟨w5, hw5⟩ : ∃ w5, w5 = y.val.alloc (.cells #[.int .i64 j.ae, .int .i64 j.as_, .int .i64 j.be, .int .i64 j.bs] 110) := ⟨_, rfl⟩
                    have X5 : Hid (Ext wr w5) := hw5 ▸ etr X4.out (eal y.is _)
                    have C5 : Hid (CellsAt w5 y.val.heap.size (List.flatMap Enc [⟨j.ae, j.as_⟩, ⟨j.be, j.bs⟩])) := hw5 ▸ CellsAt.new rfl
                    rw [hw5] at X5 C5
                    clear hw5
                    go_wp2_with (at_builtin
                                 refine wp_appL (u := w) Enc_len Enc_one Tryd.underlying141 HII.out hz0 hz1 hz2 rfl (by decide) rfl rfl rfl (H.out.2.2.1.keep X5.out) (etr H.out.1 X5.out) [⟨j.ae, j.as_⟩, ⟨j.be, j.bs⟩] (some ⟨y.val.heap.size, 0, none⟩) 2 (by simp [go_sem]) (rd_cells Enc_len C5.out) (by simp; omega) (by simp; unfold maxLen; omega) ?_
                                 intro v1 w6 H6)
                    rw [← HA.out]
                    go_roundg (L.jts.length - (k + 1))
                    case measure => have := HG.out; omega
                    case rel => exact ⟨k + 1, _, by go_num, by omega, rfl, H6.out.2.1, (H.out.2.1.keep X5.out).grown H6.out.2.2.1 H.out.2.2.2.1, H6.out.1, H6.out.2.2.2 _ H.out.2.2.2.1 (Nat.lt_of_lt_of_le H.out.2.1.1 X5.out.size), by simp; omega, HNX.out⟩
            · obtain ⟨A1, c1, rfl, hr1, hm1⟩ := H.out.2.2.1.rd Enc_len
              have HR1 := Lib.hid hr1
              have HM1 := Lib.hid hm1
              have HJ : Hid (JtsOk L.els L.jts) := fun i j hj => H.out.2.2.2.2.2 i j (by have := (List.getElem?_eq_some_iff.1 hj).1; omega) hj
              clear hr1 hm1
              go_wp2_with (go_at_call 90; refine (ends_any A1 xs c1 _ HM1.out HR1.out).mono ?_; rintro e w7 ⟨bb, rfl, _, hb7⟩; have H7 := Lib.hid hb7; clear hb7)
              all_goals go_ret
              all_goals exact RetE.mk (fun _ => ⟨HE.out, HJ.out⟩) (etr H.out.1 H7.out)
end Go.Proofs.YticonpjkcocgeaaDoor

set_option linter.unusedVariables false
set_option linter.unusedSimpArgs false
set_option maxRecDepth 100000
namespace Go.Proofs.YticonpjkcocgeaaDoor
open Go.ChangeShapes Go.WideShapes Go.ChangeAt Go.RowKit
open Sg

theorem join_hasF {els : List Elm} {jts : List Jnt} {e f : Sg.End} (h : JtsOk els jts) (hj : joinO jts e = some f) : hasEl els f.el := by
  obtain ⟨j, hm, hf⟩ := joinO_mem hj
  obtain ⟨i, hi, rfl⟩ := List.getElem_of_mem hm
  have := h i _ (List.getElem?_eq_getElem hi)
  rcases hf with rfl | rfl
  · exact this.2
  · exact this.1
theorem joined_ab (L : Lay) (a b : Int) (w : World) (hL : LayOk w L) : Calls Tryd.prog 91 #[.agg #[.string L.name, .slice L.aS L.secs.length L.cS, .slice L.aE L.els.length L.cE, .slice L.aJ L.jts.length L.cJ, .slice L.aG L.sgs.length L.cG, .slice L.aB L.bals.length L.cB], .agg #[.int .i64 a, .int .i64 b]] w fun r w' => r = .returned (.tuple #[.agg #[.int .i64 (joinV L.jts ⟨a, b⟩).el, .int .i64 (joinV L.jts ⟨a, b⟩).side], .bool (joinB L.jts ⟨a, b⟩)]) ∧ Below w.heap.size w w' := rjoined_any L ⟨a, b⟩ w hL
set_option maxHeartbeats 16000000 in
theorem signals_any (L : Lay) (w : World) (hL : LayOk w L) (hF : FewL L) (hJ : JtsOk L.els L.jts) : Calls Tryd.prog 59 #[.agg #[.string L.name, .slice L.aS L.secs.length L.cS, .slice L.aE L.els.length L.cE, .slice L.aJ L.jts.length L.cJ, .slice L.aG L.sgs.length L.cG, .slice L.aB L.bals.length L.cB]] w (RetE (fun _ => True) w) := by
  obtain ⟨i0, hi, hz0, hz1, hz2⟩ := info_parts inf_En
  have HII := Lib.hid hi
  have HL := Lib.hid hL
  have HJ := Lib.hid hJ
  have hf3 := hF.2.2.2.1
  have hmE := hL.lE
  unfold maxLen at hmE
  clear hi hL hJ hF
  go_enter Tryd.func59, Tryd.ntmps59
  go_wp2
  go_loopg [3, 13] L.sgs.length (fun g x3 ix wr => ∃ (k : Nat) (xs : List Sg.End), ix = .int .i64 k ∧ k ≤ L.sgs.length ∧ g = L.sgs.length - k ∧ Hid (Ext w wr ∧ LayAt wr w.heap.size L ∧ OwnL wr w.heap.size 110 2 Enc x3 xs ∧ x3.ownBlock ≠ some w.heap.size ∧ xs.length ≤ k ∧ ∀ x ∈ xs, hasEl L.els x.el))
  case atStart => exact ⟨0, [], rfl, by omega, by omega, eal (Ext.refl _) _, CellsAt.new rfl, OwnL.nil, by simp [Value.ownBlock], by simp, fun x h => by cases h⟩
  case round =>
    obtain ⟨k, xs, rfl, hk, hg, H⟩ := hrel
    have HG := Lib.hid hg
    clear hg
    obtain ⟨l0, a0, a1, a2, a3, a4, a5⟩ := layAt_cells H.out.2.1
    have l1 := lt_up2 l0
    have hxl := H.out.2.2.2.2.1
    by_cases hlt : k < L.sgs.length
    · obtain ⟨b, off, x, hA, hs, hbs, c0, c1, c2, c3⟩ := rd_sg HL.out.hG H.out.1 hlt
      have HA := Lib.hid hA
      have E4 : Hid (Ext w (wr.alloc (.cells #[.string x.name, .int .i64 x.el, .int .i64 x.side, .int .i64 x.ovl] 145))) := eal H.out.1 _
      have X4 : Hid (Ext wr (wr.alloc (.cells #[.string x.name, .int .i64 x.el, .int .i64 x.side, .int .i64 x.ovl] 145))) := eal (Ext.refl _) _
      rw [hA]
      clear hs hA
      have key : (exB L.els ⟨x.el, x.side⟩ = false) ∨ (exB L.els ⟨x.el, x.side⟩ = true ∧ decide (x.ovl < 0) = true) ∨ (exB L.els ⟨x.el, x.side⟩ = true ∧ decide (x.ovl < 0) = false ∧ decide (1000000 < x.ovl) = true) ∨ (exB L.els ⟨x.el, x.side⟩ = true ∧ decide (x.ovl < 0) = false ∧ decide (1000000 < x.ovl) = false) := by
        cases exB L.els ⟨x.el, x.side⟩ <;> cases decide (x.ovl < 0) <;> cases decide (1000000 < x.ovl) <;> simp
      rcases key with q1 | ⟨q1, q2⟩ | ⟨q1, q2, q3⟩ | ⟨q1, q2, q3⟩
      iterate 3
        · go_wp2_with (go_at_call 89; refine (to_after (exist_ab L _ _ _ (HL.out.keep E4.out))).mono ?_; rintro e w' ⟨y, rfl, rfl⟩)
          go_ret
          exact RetE.mk trivial (etr E4.out (After.is _))
      · have HQ := Lib.hid (exB_has q1)
        go_upto_region 7 with (go_at_call 89; refine (to_after (exist_ab L _ _ _ (HL.out.keep E4.out))).mono ?_; rintro e w' ⟨y, rfl, rfl⟩)
        have X5 : Hid (Ext wr (y.val.alloc (.cells #[.int .i64 x.el, .int .i64 x.side] 110))) := etr X4.out (eal y.is _)
        have C5 : Hid (CellsAt (y.val.alloc (.cells #[.int .i64 x.el, .int .i64 x.side] 110)) y.val.heap.size (List.flatMap Enc [⟨x.el, x.side⟩])) := CellsAt.new rfl
        go_wp2_with (at_builtin
                     refine wp_appL (u := w) Enc_len Enc_one Tryd.underlying141 HII.out hz0 hz1 hz2 rfl (by decide) rfl rfl rfl (H.out.2.2.1.keep X5.out) (etr H.out.1 X5.out) [⟨x.el, x.side⟩] (some ⟨y.val.heap.size, 0, none⟩) 1 (by simp [go_sem]) (rd_cells Enc_len C5.out) (by simp; omega) (by simp; unfold maxLen; omega) ?_
                     intro v1 w6 H6)
        rw [← HA.out]
        go_roundg (L.sgs.length - (k + 1))
        case measure => have := HG.out; omega
        case rel => exact ⟨k + 1, _, by go_num, by omega, rfl, H6.out.2.1, (H.out.2.1.keep X5.out).grown H6.out.2.2.1 H.out.2.2.2.1, H6.out.1, H6.out.2.2.2 _ H.out.2.2.2.1 (Nat.lt_of_lt_of_le H.out.2.1.1 X5.out.size), by simp; omega, fun z hz => by
          rcases List.mem_append.1 hz with hm | hm
          · exact H.out.2.2.2.2.2 z hm
          · simp at hm; subst hm; exact HQ.out⟩
    · obtain ⟨A1, c1, rfl, hr1, hm1⟩ := H.out.2.2.1.rd Enc_len
      have HR1 := Lib.hid hr1
      have HM1 := Lib.hid hm1
      have HH := Lib.hid H.out
      clear hr1 hm1
      go_wp2_with (go_at_call 90; refine (ends_any A1 xs c1 _ HM1.out HR1.out).mono ?_; rintro e w7 ⟨bb, rfl, _, hb7⟩; have H7 := Lib.hid hb7; clear hb7; cases bb)
      rotate_left
      · go_ret
        exact RetE.mk trivial (etr HH.out.1 H7.out)
      clear a0 a1 a2 a3 a4 a5 l0 l1
      go_loopg [42] xs.length (fun g ix wr => ∃ k : Nat, ix = .int .i64 k ∧ k ≤ xs.length ∧ g = xs.length - k ∧ Hid (Ext w7 wr))
      case atStart => exact ⟨0, rfl, by omega, by omega, Ext.refl _⟩
      case round =>
        obtain ⟨k, rfl, hk, hg, H2⟩ := hrel
        have HG := Lib.hid hg
        clear hg
        have EW : Hid (Ext w wr) := etr (etr HH.out.1 H7.out) H2.out
        by_cases hlt : k < xs.length
        · obtain ⟨b, off, x, rfl, hs, hbs, c0, c1⟩ := rd_en HR1.out (etr H7.out H2.out) hlt
          have hh := HH.out.2.2.2.2.2 x (List.mem_of_getElem? hs)
          obtain ⟨kE, xe, hel, hx, hxe⟩ := has_at hh
          have E4 : Hid (Ext w (wr.alloc (.cells #[.int .i64 x.el, .int .i64 x.side] 110))) := eal EW.out _
          obtain ⟨l0, a0, a1, a2, a3, a4, a5⟩ := layAt_cells ((HH.out.2.1.keep H7.out).keep H2.out)
          have l1 := lt_up2 l0
          clear hs
          cases hj : joinO L.jts x with
          | none =>
            have q1 : joinB L.jts ⟨x.el, x.side⟩ = false := by unfold joinB; rw [show (⟨x.el, x.side⟩ : Sg.End) = x from rfl, hj]; rfl
            clear hj hx hxe hel
            go_wp2_with (go_at_call 91; refine (to_after (joined_ab L _ _ _ (HL.out.keep E4.out))).mono ?_; rintro e w' ⟨y, rfl, rfl⟩)
            refine wp_region_after (by kernel_rfl) (by kernel_rfl) ?_
            repeat (first | go_big_quiet_step (fail))
            refine wpQuiet_nil ?_
            rintro _ ⟨z, rfl⟩
            go_wp2
            go_ret
            exact RetE.mk trivial (etr (eal (etr E4.out y.is) _) z.is)
          | some f =>
            have q1 : joinB L.jts ⟨x.el, x.side⟩ = true := by unfold joinB; rw [show (⟨x.el, x.side⟩ : Sg.End) = x from rfl, hj]; rfl
            have q2 : joinV L.jts ⟨x.el, x.side⟩ = f := by unfold joinV; rw [show (⟨x.el, x.side⟩ : Sg.End) = x from rfl, hj]; rfl
            obtain ⟨kF, xf, hfl, hfx, hfe⟩ := has_at (join_hasF HJ.out hj)
            obtain ⟨fel, fsi⟩ := f
            obtain ⟨xel, xsi⟩ := x
            obtain rfl : fel = (kF : Int) := hfl
            obtain rfl : xel = (kE : Int) := hel
            simp only [] at q1 q2 c0 c1 E4
            have HX1 : Hid (∀ w' : World, Ext w w' → ∃ bE oE, L.aE = some ⟨bE, oE, none⟩ ∧ bE < w'.heap.size ∧ w'.cell? ⟨bE, oE + kE * 7 + 1 + 1 + 1 + 1 + 1 + 1, none⟩ = some (.int .i64 xe.sec) ∧ w'.cell? ⟨bE, oE + kF * 7 + 1 + 1 + 1 + 1 + 1 + 1, none⟩ = some (.int .i64 xf.sec)) := fun w' h => by
              obtain ⟨bE, oE, x', hA, hx', hbE, _, _, _, _, _, _, e6⟩ := rd_el HL.out.hE h (List.getElem?_eq_some_iff.1 hx).1
              rw [hx] at hx'; cases hx'
              obtain ⟨_, _, _, _, _, _, _, f6⟩ := rd_el_at (hA ▸ HL.out.hE) h hfx
              exact ⟨bE, oE, hA, hbE, e6, f6⟩
            have hkE := (List.getElem?_eq_some_iff.1 hx).1
            have hkF := (List.getElem?_eq_some_iff.1 hfx).1
            clear hj hx hxe hfx hfe
            go_upto_region 15 with (go_at_call 91; refine (to_after (joined_ab L _ _ _ (HL.out.keep E4.out))).mono ?_; rw [q2]; rintro e w' ⟨y, rfl, rfl⟩)
            have E5 : Hid (Ext w (y.val.alloc (.cells #[.int .i64 kF, .int .i64 fsi] 110))) := eal (etr E4.out y.is) _
            obtain ⟨bE, oE, hA, hbE, e6, f6⟩ := HX1.out _ E5.out
            have L5 : Hid (LayAt (y.val.alloc (.cells #[.int .i64 kF, .int .i64 fsi] 110)) w.heap.size L) := (((HH.out.2.1.keep H7.out).keep H2.out).keep (etr (eal (Ext.refl _) _) y.is)).keep (eal (Ext.refl _) _)
            have P5 : Hid (CellsAt (y.val.alloc (.cells #[.int .i64 kF, .int .i64 fsi] 110)) wr.heap.size [.int .i64 kE, .int .i64 xsi]) := (CellsAt.keep (CellsAt.new rfl) y.is).keep (eal (Ext.refl _) _)
            have F5 : Hid (CellsAt (y.val.alloc (.cells #[.int .i64 kF, .int .i64 fsi] 110)) y.val.heap.size [.int .i64 kF, .int .i64 fsi]) := CellsAt.new rfl
            obtain ⟨w5, hw5⟩ : ∃ w5, w5 = y.val.alloc (.cells #[.int .i64 kF, .int .i64 fsi] 110) := ⟨_, rfl⟩
            rw [← hw5] at E5 L5 P5 F5 hbE e6 f6 ⊢
            have X5 : Hid (Ext wr w5) := hw5 ▸ eal (etr (eal (Ext.refl _) _) y.is) _
            clear hw5 l0 l1 a0 a1 a2 a3 a4 a5 c0 c1 hbs
            obtain ⟨l0, a0, a1, a2, a3, a4, a5⟩ := layAt_cells L5.out
            have p0 := P5.out.2 0 _ rfl
            have p9 := P5.out.1
            have f0 := F5.out.2 0 _ rfl
            have f9 := F5.out.1
            have hl : L.els.length ≤ 9223372036854775807 := by omega
            rw [hA] at a2
            clear hA
            go_wp2
            refine wp_region_after (by kernel_rfl) (by kernel_rfl) ?_
            repeat (first | go_big_quiet_step (fail))
            refine wpQuiet_nil ?_
            rintro _ ⟨z, rfl⟩
            rcases Bool.eq_false_or_eq_true (xf.sec == xe.sec) with q3 | q3
            · go_wp2
              go_ret
              exact RetE.mk trivial (etr E5.out z.is)
            · go_wp2
              go_roundg (xs.length - (k + 1))
              case measure => have := HG.out; omega
              case rel => exact ⟨k + 1, by go_num, by omega, rfl, etr H2.out (etr X5.out z.is)⟩
        · go_wp2
          go_ret
          exact RetE.mk trivial EW.out
end Go.Proofs.YticonpjkcocgeaaDoor

set_option linter.unusedVariables false
set_option linter.unusedSimpArgs false
set_option maxRecDepth 100000
namespace Go.Proofs.YticonpjkcocgeaaDoor
open Go.ChangeShapes Go.WideShapes Go.ChangeAt Go.RowKit
open Sg

/-- No number is in a list twice. -/
def Dist5 (p : List Int) : Prop := ∀ (i j : Nat) x y, i < j → p[i]? = some x → p[j]? = some y → x ≠ y
theorem dist5_snoc {p : List Int} {k : Nat} {s : Int} (hs : p[k]? = some s) (h : Dist5 (p.take k)) (hn : ∀ (i : Nat) x, i < k → p[i]? = some x → x ≠ s) : Dist5 (p.take (k + 1)) := fun i j x y hij hx hy => by
  rw [List.getElem?_take] at hx hy
  split at hy
  · rename_i hj
    split at hx
    · by_cases e : j = k
      · subst e; rw [hs] at hy; cases hy; exact hn i x hij hx
      · exact h i j x y hij (by rw [List.getElem?_take, if_pos (by omega)]; exact hx) (by rw [List.getElem?_take, if_pos (by omega)]; exact hy)
    · cases hx
  · cases hy
/-- What the reference's Check says of a layout. -/
structure LayV (L : Lay) : Prop where
  els : ElsOk L.els
  jts : JtsOk L.els L.jts
  few : L.bals.length ≤ 24
  bals : BalOk L.els L.bals
  ids : Dist5 (L.bals.map Bls.id)
theorem numbers5_any (A : Option Addr) (p : List Int) (c : Nat) (w : World) (hm : p.length ≤ maxLen) (hr : Rd w A 1 Nmc p) : Calls Tryd.prog 92 #[.slice A p.length c] w (RetB (fun b => b = false → Dist5 p) w) := by
  unfold maxLen at hm
  have HR := Lib.hid hr
  clear hr
  go_enter Tryd.func92, Tryd.ntmps92
  go_wp2
  go_loopg [7] p.length (fun g ix wr => ∃ k : Nat, ix = .int .i64 k ∧ k ≤ p.length ∧ g = p.length - k ∧ Hid (Ext w wr ∧ Dist5 (p.take k)))
  case atStart => exact ⟨0, rfl, by omega, by omega, Ext.refl _, fun i j x y hij hx hy => by simp at hx⟩
  case round =>
    obtain ⟨k, rfl, hk, hg, H⟩ := hrel
    have HG := Lib.hid hg
    clear hg
    by_cases hlt : k < p.length
    · obtain ⟨b, off, s, rfl, hs, _, _⟩ := rd_nm HR.out H.out.1 hlt
      have HS := Lib.hid hs
      clear hs
      go_wp2
      have HH := Lib.hid H.out.1
      have HP := Lib.hid H.out.2
      go_loopg [11] k (fun g ix wr2 => ∃ j : Nat, ix = .int .i64 j ∧ j ≤ k ∧ g = k - j ∧ Hid (Ext w wr2 ∧ ∀ (i : Nat) x, i < j → p[i]? = some x → x ≠ s))
      case atStart => exact ⟨0, rfl, by omega, by omega, HH.out, fun i x h => absurd h (by omega)⟩
      case round =>
        obtain ⟨j, rfl, hj, hg2, H2⟩ := hrel
        have HG2 := Lib.hid hg2
        clear hg2
        by_cases hlt2 : j < k
        · obtain ⟨b1, off1, s', hA1, hs', hbs, d0, d1⟩ := rd_nm HR.out H2.out.1 hlt
          obtain rfl : s' = s := by have := HS.out; rw [hs'] at this; cases this; rfl
          clear hs'
          obtain ⟨rfl, rfl⟩ := rd_same hA1
          obtain ⟨b2, off2, t, hA2, ht, _, e0, e1⟩ := rd_nm HR.out H2.out.1 (show j < p.length by omega)
          obtain ⟨rfl, rfl⟩ := rd_same hA2
          have HT := Lib.hid ht
          clear ht
          rcases Bool.eq_false_or_eq_true (s' == t) with q | q
          · go_wp2
            refine wp_region_after (by kernel_rfl) (by kernel_rfl) ?_
            repeat (first | go_big_quiet_step (fail))
            refine wpQuiet_nil ?_
            rintro _ ⟨y, rfl⟩
            go_wp2
            go_ret
            exact RetB.mk (fun h => by cases h) (etr H2.out.1 y.is)
          · have HN : Hid (∀ (i : Nat) x, i < j + 1 → p[i]? = some x → x ≠ s') := fun i x hi hx => by
              by_cases e : i = j
              · subst e; rw [HT.out] at hx; cases hx; intro e2; subst e2; simp at q
              · exact H2.out.2 i x (by omega) hx
            go_wp2
            refine wp_region_after (by kernel_rfl) (by kernel_rfl) ?_
            repeat (first | go_big_quiet_step (fail))
            refine wpQuiet_nil ?_
            rintro _ ⟨y, rfl⟩
            go_wp2
            go_roundg (k - (j + 1))
            case measure => have := HG2.out; omega
            case rel => exact ⟨j + 1, by go_num, by omega, rfl, etr H2.out.1 y.is, HN.out⟩
        · have HN : Hid (Dist5 (p.take (k + 1))) := dist5_snoc HS.out HP.out (fun i x hi hx => H2.out.2 i x (by omega) hx)
          go_wp2
          go_roundg (p.length - (k + 1))
          case measure => have := HG.out; omega
          case rel => exact ⟨k + 1, by go_num, by omega, rfl, H2.out.1, HN.out⟩
    · have HD : Hid (Dist5 p) := by have := H.out.2; rwa [List.take_of_length_le (by omega)] at this
      go_wp2
      go_ret
      exact RetB.mk (fun _ => HD.out) H.out.1
set_option maxHeartbeats 16000000 in
theorem named5_any (L : Lay) (w : World) (hL : LayOk w L) (hF : FewL L) : Calls Tryd.prog 57 #[.agg #[.string L.name, .slice L.aS L.secs.length L.cS, .slice L.aE L.els.length L.cE, .slice L.aJ L.jts.length L.cJ, .slice L.aG L.sgs.length L.cG, .slice L.aB L.bals.length L.cB]] w (RetE (fun n => n = 0 → L.bals.length ≤ 24) w) := by
  by_cases h : L.bals.length ≤ 24
  · exact (named_any L w hL hF).mono fun e w' ⟨n, h1, _, h3⟩ => ⟨n, h1, fun _ => h, h3⟩
  · have q : decide ((24 : Int) < (L.bals.length : Int)) = true := decide_eq_true (by omega)
    clear h hL hF
    go_enter Tryd.func57, Tryd.ntmps57
    go_wp2
    all_goals go_ret
    all_goals exact RetE.mk (fun h => by cases h) (eal (Ext.refl _) _)
set_option maxHeartbeats 16000000 in
theorem balises5_any (L : Lay) (w : World) (hL : LayOk w L) (hF : FewL L) : Calls Tryd.prog 60 #[.agg #[.string L.name, .slice L.aS L.secs.length L.cS, .slice L.aE L.els.length L.cE, .slice L.aJ L.jts.length L.cJ, .slice L.aG L.sgs.length L.cG, .slice L.aB L.bals.length L.cB]] w (RetE (fun n => n = 0 → BalOk L.els L.bals ∧ Dist5 (L.bals.map Bls.id)) w) := by
  obtain ⟨i0, hi, hz0, hz1, hz2⟩ := info_parts inf_Int
  have HII := Lib.hid hi
  have HL := Lib.hid hL
  have hf3 := hF.2.2.2.2
  have hmE := hL.lE
  unfold maxLen at hmE
  clear hi hL hF
  go_enter Tryd.func60, Tryd.ntmps60
  go_wp2
  go_loopg [3, 9] L.bals.length (fun g x3 ix wr => ∃ (k : Nat) (xs : List Int), ix = .int .i64 k ∧ k ≤ L.bals.length ∧ g = L.bals.length - k ∧ Hid (Ext w wr ∧ LayAt wr w.heap.size L ∧ OwnL wr w.heap.size 3 1 Nmc x3 xs ∧ x3.ownBlock ≠ some w.heap.size ∧ xs.length ≤ k) ∧ Hid (BalOk L.els (L.bals.take k) ∧ xs = (L.bals.take k).map Bls.id))
  case atStart => exact ⟨0, [], rfl, by omega, by omega, ⟨eal (Ext.refl _) _, CellsAt.new rfl, OwnL.nil, by simp [Value.ownBlock], by simp⟩, fun i b h => by simp at h, rfl⟩
  case round =>
    obtain ⟨k, xs, rfl, hk, hg, H, HB⟩ := hrel
    have HG := Lib.hid hg
    clear hg
    obtain ⟨l0, a0, a1, a2, a3, a4, a5⟩ := layAt_cells H.out.2.1
    have l1 := lt_up2 l0
    have hxl := H.out.2.2.2.2
    by_cases hlt : k < L.bals.length
    · obtain ⟨b, off, x, hA, hs, hbs, c0, c1, c2⟩ := rd_ba HL.out.hB H.out.1 hlt
      have HA := Lib.hid hA
      have HS := Lib.hid hs
      have E4 : Hid (Ext w (wr.alloc (.cells #[.int .i64 x.id, .int .i64 x.el, .int .i64 x.off] 86))) := eal H.out.1 _
      have X4 : Hid (Ext wr (wr.alloc (.cells #[.int .i64 x.id, .int .i64 x.el, .int .i64 x.off] 86))) := eal (Ext.refl _) _
      rw [hA]
      clear hs hA
      have key : ((decide (x.id < 1) = true) ∨ (decide (x.id < 1) = false ∧ decide (1073741824 < x.id) = true) ∨ (decide (x.id < 1) = false ∧ decide (1073741824 < x.id) = false ∧ decide (x.el < 0) = true) ∨ (decide (x.id < 1) = false ∧ decide (1073741824 < x.id) = false ∧ decide (x.el < 0) = false ∧ decide ((L.els.length : Int) ≤ x.el) = true) ∨ (decide (x.id < 1) = false ∧ decide (1073741824 < x.id) = false ∧ decide (x.el < 0) = false ∧ decide ((L.els.length : Int) ≤ x.el) = false ∧ decide (x.off < 0) = true)) ∨ (decide (x.id < 1) = false ∧ decide (1073741824 < x.id) = false ∧ decide (x.el < 0) = false ∧ decide ((L.els.length : Int) ≤ x.el) = false ∧ decide (x.off < 0) = false) := by
        cases decide (x.id < 1) <;> cases decide (1073741824 < x.id) <;> cases decide (x.el < 0) <;> cases decide ((L.els.length : Int) ≤ x.el) <;> cases decide (x.off < 0) <;> simp
      rcases key with key | ⟨q1, q2, q3, q4, q5⟩
      · rcases key with q1 | ⟨q1, q2⟩ | ⟨q1, q2, q3⟩ | ⟨q1, q2, q3, q4⟩ | ⟨q1, q2, q3, q4, q5⟩
        iterate 5
          · go_wp2
            refine wp_region_after (by kernel_rfl) (by kernel_rfl) ?_
            repeat (first | go_big_quiet_step (fail))
            refine wpQuiet_nil ?_
            rintro _ ⟨y, rfl⟩
            go_wp2
            go_ret
            exact RetE.mk (fun h => by cases h) (etr E4.out y.is)
      · have hel : hasEl L.els x.el := ⟨by have := of_decide_eq_false q3; omega, by have := of_decide_eq_false q4; omega⟩
        obtain ⟨kE, xe, hke, hx, hxe⟩ := has_at hel
        obtain ⟨bE, oE, x', hAE, hx', hbE, e0, e1, e2, e3, e4, e5, e6⟩ := rd_el HL.out.hE H.out.1 (List.getElem?_eq_some_iff.1 hx).1
        rw [hx] at hx'
        cases hx'
        have hkE := (List.getElem?_eq_some_iff.1 hx).1
        have HAE := Lib.hid hAE
        have HGD : Hid (¬ xe.len < x.off → BalOk L.els (L.bals.take (k + 1)) ∧ xs ++ [x.id] = (L.bals.take (k + 1)).map Bls.id) := fun hn => by
          obtain ⟨hl, e⟩ := List.getElem?_eq_some_iff.1 HS.out
          rw [List.take_succ_eq_append_getElem hl, e, List.map_append, HB.out.2]
          refine ⟨fun i b hb => ?_, rfl⟩
          rcases Nat.lt_or_ge i (L.bals.take k).length with h | h
          · rw [List.getElem?_append_left h] at hb; exact HB.out.1 i b hb
          · rw [List.getElem?_append_right h] at hb
            have e2 : i - (L.bals.take k).length = 0 := by have h7 := (List.getElem?_eq_some_iff.1 hb).1; simp only [List.length_cons, List.length_nil] at h7; omega
            rw [e2] at hb
            cases hb
            have h1 := of_decide_eq_false q1
            have h2 := of_decide_eq_false q2
            have h5 := of_decide_eq_false q5
            rw [hxe]
            exact ⟨by omega, by omega, hel, by omega, by omega⟩
        obtain ⟨xid, xel, xoff⟩ := x
        obtain rfl : xel = (kE : Int) := hke
        simp only [] at q1 q2 q3 q4 q5 c0 c1 c2 E4 X4 HGD
        have q4n : decide (L.els.length ≤ kE) = false := decide_eq_false (by omega)
        have hbE1 := lt_up2 hbE
        have hl : L.els.length ≤ 9223372036854775807 := by omega
        rw [hAE] at a2 ⊢
        clear hx hxe hAE hel
        go_wp2
        refine wp_region_after (by kernel_rfl) (by kernel_rfl) ?_
        repeat (first | go_big_quiet_step (fail))
        refine wpQuiet_nil ?_
        rintro _ ⟨y, rfl⟩
        by_cases q6 : xe.len < xoff
        · go_wp2
          go_ret
          exact RetE.mk (fun h => by cases h) (etr E4.out y.is)
        · have HGE := Lib.hid (HGD.out (Int.not_lt.1 q6))
          have X5 : Hid (Ext wr (y.val.alloc (.cells #[.int .i64 xid] 3))) := etr X4.out (eal y.is _)
          have C5 : Hid (CellsAt (y.val.alloc (.cells #[.int .i64 xid] 3)) y.val.heap.size (List.flatMap Nmc [xid])) := CellsAt.new rfl
          go_wp2_with (at_builtin
                       refine wp_appL (u := w) Nmc_len Nmc_one Tryd.underlying29 HII.out hz0 hz1 hz2 rfl (by decide) rfl rfl rfl (H.out.2.2.1.keep X5.out) (etr H.out.1 X5.out) [xid] (some ⟨y.val.heap.size, 0, none⟩) 1 (by simp [go_sem]) (rd_cells Nmc_len C5.out) (by simp; omega) (by simp; unfold maxLen; omega) ?_
                       intro v1 w6 H6)
          rw [← HA.out, ← HAE.out]
          go_roundg (L.bals.length - (k + 1))
          case measure => have := HG.out; omega
          case rel => exact ⟨k + 1, _, by go_num, by omega, rfl, ⟨H6.out.2.1, (H.out.2.1.keep X5.out).grown H6.out.2.2.1 H.out.2.2.2.1, H6.out.1, H6.out.2.2.2 _ H.out.2.2.2.1 (Nat.lt_of_lt_of_le H.out.2.1.1 X5.out.size), by simp; omega⟩, HGE.out⟩
    · obtain ⟨A1, c1, rfl, hr1, hm1⟩ := H.out.2.2.1.rd Nmc_len
      have HR1 := Lib.hid hr1
      have HM1 := Lib.hid hm1
      clear hr1 hm1
      go_wp2_with (go_at_call 92; refine (numbers5_any A1 xs c1 _ HM1.out HR1.out).mono ?_; rintro e w7 ⟨bb, rfl, hd7, hb7⟩; have H7 := Lib.hid hb7; have HD7 := Lib.hid hd7; clear hb7 hd7; cases bb)
      · have HDD := Lib.hid (HD7.out (by trivial))
        go_ret
        exact RetE.mk (fun _ => ⟨by have := HB.out.1; rwa [List.take_of_length_le (by omega)] at this, by have h1 := HDD.out; rw [HB.out.2, List.take_of_length_le (by omega)] at h1; exact h1⟩) (etr H.out.1 H7.out)
      · go_ret
        exact RetE.mk (fun h => by cases h) (etr H.out.1 H7.out)
set_option maxHeartbeats 8000000 in
theorem check5_any (L : Lay) (w : World) (hL : LayOk w L) (hF : FewL L) : Calls Tryd.prog 25 #[.agg #[.string L.name, .slice L.aS L.secs.length L.cS, .slice L.aE L.els.length L.cE, .slice L.aJ L.jts.length L.cJ, .slice L.aG L.sgs.length L.cG, .slice L.aB L.bals.length L.cB]] w (RetE (fun n => n = 0 → LayV L) w) := by
  have HL := Lib.hid hL
  have HF := Lib.hid hF
  clear hL hF
  have E0 : Hid (Ext w (w.alloc (.cells #[.string L.name, .slice L.aS L.secs.length L.cS, .slice L.aE L.els.length L.cE, .slice L.aJ L.jts.length L.cJ, .slice L.aG L.sgs.length L.cG, .slice L.aB L.bals.length L.cB] 28))) := eal (Ext.refl _) _
  have L0 : Hid (LayAt (w.alloc (.cells #[.string L.name, .slice L.aS L.secs.length L.cS, .slice L.aE L.els.length L.cE, .slice L.aJ L.jts.length L.cJ, .slice L.aG L.sgs.length L.cG, .slice L.aB L.bals.length L.cB] 28)) w.heap.size L) := CellsAt.new rfl
  go_enter Tryd.func25, Tryd.ntmps25
  go_upto_region 2 with (go_at_call 57; refine (named5_any L _ (HL.out.keep E0.out) HF.out).mono ?_; rintro e w1 ⟨n1, rfl, hp1, hb⟩; have H1 := Lib.hid hb; have HP1 := Lib.hid hp1; clear hb hp1)
  obtain ⟨l0, a0, a1, a2, a3, a4, a5⟩ := layAt_cells (L0.out.keep H1.out)
  by_cases h1 : n1 = 0
  rotate_left
  · have q1 : (n1 != 0) = true := by simpa using h1
    have HN1 := Lib.hid h1
    clear h1
    go_wp2
    go_ret
    exact RetE.mk (fun h => absurd h HN1.out) (etr E0.out H1.out)
  subst h1
  go_upto_region 5 with (go_at_call 58; refine (elements_any L _ (HL.out.keep (etr E0.out H1.out)) HF.out).mono ?_; rintro e w2 ⟨n2, rfl, hp, hb⟩; have H2 := Lib.hid hb; have HP := Lib.hid hp; clear hb hp)
  clear l0 a0 a1 a2 a3 a4 a5
  obtain ⟨l0, a0, a1, a2, a3, a4, a5⟩ := layAt_cells ((L0.out.keep H1.out).keep H2.out)
  by_cases h2 : n2 = 0
  rotate_left
  · have q1 : (n2 != 0) = true := by simpa using h2
    have HN2 := Lib.hid h2
    clear h2
    go_wp2
    go_ret
    exact RetE.mk (fun h => absurd h HN2.out) (etr (etr E0.out H1.out) H2.out)
  subst h2
  have HOK : Hid (ElsOk L.els ∧ JtsOk L.els L.jts) := HP.out rfl
  go_upto_region 8 with (go_at_call 59; refine (signals_any L _ (HL.out.keep (etr (etr E0.out H1.out) H2.out)) HF.out HOK.out.2).mono ?_; rintro e w3 ⟨n3, rfl, _, hb⟩; have H3 := Lib.hid hb; clear hb)
  clear l0 a0 a1 a2 a3 a4 a5
  obtain ⟨l0, a0, a1, a2, a3, a4, a5⟩ := layAt_cells (((L0.out.keep H1.out).keep H2.out).keep H3.out)
  by_cases h3 : n3 = 0
  rotate_left
  · have q1 : (n3 != 0) = true := by simpa using h3
    have HN3 := Lib.hid h3
    clear h3
    go_wp2
    go_ret
    exact RetE.mk (fun h => absurd h HN3.out) (etr (etr (etr E0.out H1.out) H2.out) H3.out)
  subst h3
  go_wp2_with (go_at_call 60; refine (balises5_any L _ (HL.out.keep (etr (etr (etr E0.out H1.out) H2.out) H3.out)) HF.out).mono ?_; rintro e w4 ⟨n4, rfl, hp4, hb⟩; have H4 := Lib.hid hb; have HP4 := Lib.hid hp4; clear hb hp4)
  go_ret
  exact RetE.mk (fun h0 => ⟨HOK.out.1, HOK.out.2, HP1.out (by trivial), (HP4.out h0).1, (HP4.out h0).2⟩) (etr (etr (etr (etr E0.out H1.out) H2.out) H3.out) H4.out)
end Go.Proofs.YticonpjkcocgeaaDoor
