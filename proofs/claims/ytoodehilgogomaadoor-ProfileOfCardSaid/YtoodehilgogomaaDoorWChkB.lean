/- Walks of signallingref07: texts, ends, numbers, Members; signallingref05.Name: that they return. -/
import Derived.Test.YtoodehilgogomaaDoorWChkA
import Derived.Laws.Strings
set_option linter.unusedVariables false
set_option linter.unusedSimpArgs false
set_option maxRecDepth 100000
namespace Go.Proofs.YtoodehilgogomaaDoor
open Go.ChangeShapes Go.WideShapes Go.ChangeAt Go.RowKit
open Sg

def Enc (s : Sg.End) : List Value := [.int .i64 s.el, .int .i64 s.side]
theorem Enc_len (s : Sg.End) : (Enc s).length = 2 := rfl
theorem Enc_one (s : Sg.End) : ∀ u ∈ Enc s, u.oneCell' = true := by intro u hu; simp [Enc] at hu; rcases hu with rfl | rfl <;> rfl
theorem rd_en {w wr : World} {A : Option Addr} {p : List Sg.End} {k : Nat} (h : Rd w A 2 Enc p) (hb : Ext w wr) (hk : k < p.length) :
    ∃ b off s, A = some ⟨b, off, none⟩ ∧ p[k]? = some s ∧ b < wr.heap.size ∧ wr.cell? ⟨b, off + k * 2, none⟩ = some (.int .i64 s.el) ∧ wr.cell? ⟨b, off + k * 2 + 1, none⟩ = some (.int .i64 s.side) := by
  obtain ⟨b, off, rfl, h1, h2⟩ := h.keep hb (by omega)
  obtain ⟨s, hs⟩ : ∃ s, p[k]? = some s := ⟨_, List.getElem?_eq_getElem hk⟩
  exact ⟨b, off, s, rfl, hs, h1, h2 k s hs 0 _ rfl, h2 k s hs 1 _ rfl⟩
def Nmc (n : Int) : List Value := [.int .i64 n]
theorem Nmc_len (n : Int) : (Nmc n).length = 1 := rfl
theorem Nmc_one (n : Int) : ∀ u ∈ Nmc n, u.oneCell' = true := by intro u hu; simp [Nmc] at hu; subst hu; rfl
theorem rd_nm {w wr : World} {A : Option Addr} {p : List Int} {k : Nat} (h : Rd w A 1 Nmc p) (hb : Ext w wr) (hk : k < p.length) :
    ∃ b off s, A = some ⟨b, off, none⟩ ∧ p[k]? = some s ∧ b < wr.heap.size ∧ wr.cell? ⟨b, off + k * 1, none⟩ = some (.int .i64 s) ∧ wr.cell? ⟨b, off + k, none⟩ = some (.int .i64 s) := by
  obtain ⟨b, off, rfl, h1, h2⟩ := h.keep hb (by omega)
  obtain ⟨s, hs⟩ : ∃ s, p[k]? = some s := ⟨_, List.getElem?_eq_getElem hk⟩
  have := h2 k s hs 0 _ rfl
  exact ⟨b, off, s, rfl, hs, h1, this, by simpa using this⟩
theorem rd_same {b off b' off' : Nat} (h : (some ⟨b, off, none⟩ : Option Addr) = some ⟨b', off', none⟩) : b' = b ∧ off' = off := by cases h; exact ⟨rfl, rfl⟩
set_option maxHeartbeats 8000000 in
theorem texts_any (A : Option Addr) (p : List ByteArray) (c : Nat) (w : World) (hm : p.length ≤ maxLen) (hr : Rd w A 1 Strc p) : Calls Tryd.prog 28 #[.slice A p.length c] w (RetB (fun _ => True) w) := by
  unfold maxLen at hm
  have HR := Lib.hid hr
  clear hr
  go_enter Tryd.func28, Tryd.ntmps28
  go_wp2
  go_loopg [7] p.length (fun g ix wr => ∃ k : Nat, ix = .int .i64 k ∧ k ≤ p.length ∧ g = p.length - k ∧ Hid (Ext w wr))
  case atStart => exact ⟨0, rfl, by omega, by omega, Ext.refl _⟩
  case round =>
    obtain ⟨k, rfl, hk, hg, H⟩ := hrel
    have HG := Lib.hid hg
    clear hg
    by_cases hlt : k < p.length
    · obtain ⟨b, off, s, rfl, _, _, _⟩ := rd_tx HR.out H.out hlt
      go_wp2
      have HH := Lib.hid H.out
      go_loopg [11] k (fun g ix wr2 => ∃ j : Nat, ix = .int .i64 j ∧ j ≤ k ∧ g = k - j ∧ Hid (Ext w wr2))
      case atStart => exact ⟨0, rfl, by omega, by omega, HH.out⟩
      case round =>
        obtain ⟨j, rfl, hj, hg2, H2⟩ := hrel
        have HG2 := Lib.hid hg2
        clear hg2
        by_cases hlt2 : j < k
        · obtain ⟨b1, off1, s, hA1, _, hbs, d0, d1⟩ := rd_tx HR.out H2.out hlt
          obtain ⟨rfl, rfl⟩ := rd_same hA1
          obtain ⟨b2, off2, t, hA2, _, _, e0, e1⟩ := rd_tx HR.out H2.out (show j < p.length by omega)
          obtain ⟨rfl, rfl⟩ := rd_same hA2
          rcases Bool.eq_false_or_eq_true (s.toList == t.toList) with q | q
          · go_wp2
            refine wp_region_after (by kernel_rfl) (by kernel_rfl) ?_
            repeat (first | go_big_quiet_step (fail))
            refine wpQuiet_nil ?_
            rintro _ ⟨y, rfl⟩
            go_wp2
            go_ret
            exact RetB.mk trivial (etr H2.out y.is)
          · go_wp2
            refine wp_region_after (by kernel_rfl) (by kernel_rfl) ?_
            repeat (first | go_big_quiet_step (fail))
            refine wpQuiet_nil ?_
            rintro _ ⟨y, rfl⟩
            go_wp2
            go_roundg (k - (j + 1))
            case measure => have := HG2.out; omega
            case rel => exact ⟨j + 1, by go_num, by omega, rfl, etr H2.out y.is⟩
        · go_wp2
          go_roundg (p.length - (k + 1))
          case measure => have := HG.out; omega
          case rel => exact ⟨k + 1, by go_num, by omega, rfl, H2.out⟩
    · go_wp2
      go_ret
      exact RetB.mk trivial H.out
set_option maxHeartbeats 8000000 in
theorem numbers_any (A : Option Addr) (p : List Int) (c : Nat) (w : World) (hm : p.length ≤ maxLen) (hr : Rd w A 1 Nmc p) : Calls Tryd.prog 34 #[.slice A p.length c] w (RetB (fun _ => True) w) := by
  unfold maxLen at hm
  have HR := Lib.hid hr
  clear hr
  go_enter Tryd.func34, Tryd.ntmps34
  go_wp2
  go_loopg [7] p.length (fun g ix wr => ∃ k : Nat, ix = .int .i64 k ∧ k ≤ p.length ∧ g = p.length - k ∧ Hid (Ext w wr))
  case atStart => exact ⟨0, rfl, by omega, by omega, Ext.refl _⟩
  case round =>
    obtain ⟨k, rfl, hk, hg, H⟩ := hrel
    have HG := Lib.hid hg
    clear hg
    by_cases hlt : k < p.length
    · obtain ⟨b, off, s, rfl, _, _, _⟩ := rd_nm HR.out H.out hlt
      go_wp2
      have HH := Lib.hid H.out
      go_loopg [11] k (fun g ix wr2 => ∃ j : Nat, ix = .int .i64 j ∧ j ≤ k ∧ g = k - j ∧ Hid (Ext w wr2))
      case atStart => exact ⟨0, rfl, by omega, by omega, HH.out⟩
      case round =>
        obtain ⟨j, rfl, hj, hg2, H2⟩ := hrel
        have HG2 := Lib.hid hg2
        clear hg2
        by_cases hlt2 : j < k
        · obtain ⟨b1, off1, s, hA1, _, hbs, d0, d1⟩ := rd_nm HR.out H2.out hlt
          obtain ⟨rfl, rfl⟩ := rd_same hA1
          obtain ⟨b2, off2, t, hA2, _, _, e0, e1⟩ := rd_nm HR.out H2.out (show j < p.length by omega)
          obtain ⟨rfl, rfl⟩ := rd_same hA2
          rcases Bool.eq_false_or_eq_true (s == t) with q | q
          · go_wp2
            refine wp_region_after (by kernel_rfl) (by kernel_rfl) ?_
            repeat (first | go_big_quiet_step (fail))
            refine wpQuiet_nil ?_
            rintro _ ⟨y, rfl⟩
            go_wp2
            go_ret
            exact RetB.mk trivial (etr H2.out y.is)
          · go_wp2
            refine wp_region_after (by kernel_rfl) (by kernel_rfl) ?_
            repeat (first | go_big_quiet_step (fail))
            refine wpQuiet_nil ?_
            rintro _ ⟨y, rfl⟩
            go_wp2
            go_roundg (k - (j + 1))
            case measure => have := HG2.out; omega
            case rel => exact ⟨j + 1, by go_num, by omega, rfl, etr H2.out y.is⟩
        · go_wp2
          go_roundg (p.length - (k + 1))
          case measure => have := HG.out; omega
          case rel => exact ⟨k + 1, by go_num, by omega, rfl, H2.out⟩
    · go_wp2
      go_ret
      exact RetB.mk trivial H.out
set_option maxHeartbeats 8000000 in
theorem ends_any (A : Option Addr) (p : List Sg.End) (c : Nat) (w : World) (hm : p.length ≤ maxLen) (hr : Rd w A 2 Enc p) : Calls Tryd.prog 32 #[.slice A p.length c] w (RetB (fun _ => True) w) := by
  unfold maxLen at hm
  have HR := Lib.hid hr
  clear hr
  go_enter Tryd.func32, Tryd.ntmps32
  go_wp2
  go_loopg [7] p.length (fun g ix wr => ∃ k : Nat, ix = .int .i64 k ∧ k ≤ p.length ∧ g = p.length - k ∧ Hid (Ext w wr))
  case atStart => exact ⟨0, rfl, by omega, by omega, Ext.refl _⟩
  case round =>
    obtain ⟨k, rfl, hk, hg, H⟩ := hrel
    have HG := Lib.hid hg
    clear hg
    by_cases hlt : k < p.length
    · obtain ⟨b, off, s, rfl, _, _, _⟩ := rd_en HR.out H.out hlt
      go_wp2
      have HH := Lib.hid H.out
      go_loopg [11] k (fun g ix wr2 => ∃ j : Nat, ix = .int .i64 j ∧ j ≤ k ∧ g = k - j ∧ Hid (Ext w wr2))
      case atStart => exact ⟨0, rfl, by omega, by omega, HH.out⟩
      case round =>
        obtain ⟨j, rfl, hj, hg2, H2⟩ := hrel
        have HG2 := Lib.hid hg2
        clear hg2
        by_cases hlt2 : j < k
        · obtain ⟨b1, off1, s, hA1, _, hbs, d0, d1⟩ := rd_en HR.out H2.out hlt
          obtain ⟨rfl, rfl⟩ := rd_same hA1
          obtain ⟨b2, off2, t, hA2, _, _, e0, e1⟩ := rd_en HR.out H2.out (show j < p.length by omega)
          obtain ⟨rfl, rfl⟩ := rd_same hA2
          rcases (show ((s.el == t.el) = true ∧ (s.side == t.side) = true) ∨ ((s.el == t.el) = true ∧ (s.side == t.side) = false) ∨ (s.el == t.el) = false by cases (s.el == t.el) <;> cases (s.side == t.side) <;> simp) with ⟨q, q2⟩ | ⟨q, q2⟩ | q
          · go_wp2
            refine wp_region_after (by kernel_rfl) (by kernel_rfl) ?_
            repeat (first | go_big_quiet_step (fail))
            refine wpQuiet_nil ?_
            rintro _ ⟨y, rfl⟩
            go_wp2
            go_ret
            exact RetB.mk trivial (etr H2.out y.is)
          · go_wp2
            refine wp_region_after (by kernel_rfl) (by kernel_rfl) ?_
            repeat (first | go_big_quiet_step (fail))
            refine wpQuiet_nil ?_
            rintro _ ⟨y, rfl⟩
            go_wp2
            go_roundg (k - (j + 1))
            case measure => have := HG2.out; omega
            case rel => exact ⟨j + 1, by go_num, by omega, rfl, etr H2.out y.is⟩
          · go_wp2
            refine wp_region_after (by kernel_rfl) (by kernel_rfl) ?_
            repeat (first | go_big_quiet_step (fail))
            refine wpQuiet_nil ?_
            rintro _ ⟨y, rfl⟩
            go_wp2
            go_roundg (k - (j + 1))
            case measure => have := HG2.out; omega
            case rel => exact ⟨j + 1, by go_num, by omega, rfl, etr H2.out y.is⟩
        · go_wp2
          go_roundg (p.length - (k + 1))
          case measure => have := HG.out; omega
          case rel => exact ⟨k + 1, by go_num, by omega, rfl, H2.out⟩
    · go_wp2
      go_ret
      exact RetB.mk trivial H.out
/-- It returns some slice. -/
def RetS (w : World) (e : Ending) (w' : World) : Prop := ∃ A n c, e = .returned (.slice A n c) ∧ Below w.heap.size w w'
theorem inf_Int : (Tryd.prog.info? 3).map (fun i => (i.zero, i.size, i.bytes)) = some (some (.int .i64 0), 1, 8) := by kernel_rfl
set_option maxHeartbeats 8000000 in
theorem members_any (L : Lay) (sec : Int) (w : World) (hL : LayOk w L) (hl : L.els.length ≤ 60) : Calls Tryd.prog 30 #[.agg #[.string L.name, .slice L.aS L.secs.length L.cS, .slice L.aE L.els.length L.cE, .slice L.aJ L.jts.length L.cJ, .slice L.aG L.sgs.length L.cG, .slice L.aB L.bals.length L.cB], .int .i64 sec] w (RetS w) := by
  obtain ⟨i0, hi, hz0, hz1, hz2⟩ := info_parts inf_Int
  have HII := Lib.hid hi
  have HL := Lib.hid hL
  clear hi hL
  go_enter Tryd.func30, Tryd.ntmps30
  go_wp2
  go_loopg [5, 11] L.els.length (fun g x5 ix wr => ∃ (k : Nat) (xs : List Int), ix = .int .i64 k ∧ k ≤ L.els.length ∧ g = L.els.length - k ∧ Hid (Ext w wr ∧ LayAt wr w.heap.size L ∧ OwnL wr (w.heap.size + 1) 3 1 Nmc x5 xs ∧ xs.length ≤ k))
  case atStart => exact ⟨0, [], rfl, by omega, by omega, eal (Ext.refl _) _, CellsAt.new rfl, OwnL.nil, by simp⟩
  case round =>
    obtain ⟨k, xs, rfl, hk, hg, H⟩ := hrel
    have HG := Lib.hid hg
    clear hg
    by_cases hlt : k < L.els.length
    · obtain ⟨b, off, x, hA, hs, hbs, c0, c1, c2, c3, c4, c5, c6⟩ := rd_el HL.out.hE H.out.1 hlt
      obtain ⟨l0, a0, a1, a2, a3, a4, a5⟩ := layAt_cells H.out.2.1
      have l1 : w.heap.size < wr.heap.size + 1 := by omega
      have HA := Lib.hid hA
      rw [hA]
      clear hs hA
      have key : ((x.sec == sec) = false) ∨ ((x.sec == sec) = true ∧ decide (0 ≤ sec) = false) ∨ ((x.sec == sec) = true ∧ decide (0 ≤ sec) = true ∧ decide (sec < (L.secs.length : Int)) = false) ∨ ((x.sec == sec) = true ∧ decide (0 ≤ sec) = true ∧ decide (sec < (L.secs.length : Int)) = true) := by
        cases (x.sec == sec) <;> cases decide (0 ≤ sec) <;> cases decide (sec < (L.secs.length : Int)) <;> simp
      rcases key with q1 | ⟨q1, q2⟩ | ⟨q1, q2, q3⟩ | ⟨q1, q2, q3⟩
      iterate 3
        · go_wp2
          rw [← HA.out]
          go_roundg (L.els.length - (k + 1))
          case measure => have := HG.out; omega
          case rel => exact ⟨k + 1, xs, by go_num, by omega, rfl, eal H.out.1 _, H.out.2.1.keep (eal (Ext.refl _) _), H.out.2.2.1.keep (eal (Ext.refl _) _), by have := H.out.2.2.2; omega⟩
      · have hi := HII.out
        have hxl := H.out.2.2.2
        have E4 : Hid (Ext wr ((wr.alloc (.cells #[.string x.name, .int .i64 x.kind, .int .i64 x.len, .int .i64 x.grade, .int .i64 x.speed, .int .i64 x.slow, .int .i64 x.sec] 49)).alloc (.cells #[.int .i64 k] 3))) := eal (eal (Ext.refl _) _) _
        have HY : Hid (CellsAt ((wr.alloc (.cells #[.string x.name, .int .i64 x.kind, .int .i64 x.len, .int .i64 x.grade, .int .i64 x.speed, .int .i64 x.slow, .int .i64 x.sec] 49)).alloc (.cells #[.int .i64 k] 3)) (wr.heap.size + 1) (Nmc (k : Int))) := CellsAt.new (by simp)
        go_wp2_with (at_builtin
                     refine wp_app1 Nmc_len Nmc_one Tryd.underlying59 hi hz0 hz1 hz2 rfl (by decide) rfl rfl rfl (H.out.2.2.1.keep E4.out) (k : Int) (wr.heap.size + 1) (by simp [go_sem]) HY.out (by omega) (by unfold maxLen; omega) (by have := E4.out.size; omega) ?_
                     intro v1 w1 h1 h2 h3
                     have H1 := Lib.hid h1
                     have H2 := Lib.hid h2
                     clear h1 h2 h3)
        rw [← HA.out]
        have NB : ∀ e, u5.ownBlock = some e → w.heap.size + 1 ≤ e := fun e he => (H.out.2.2.1.lt e he).1
        have E5 : Hid (Ext w w1) := OwnL.app_below (etr H.out.1 E4.out) (etr H.out.1 E4.out).size (fun b hb => by have := NB b hb; omega) H2.out
        have L5 : Hid (LayAt w1 w.heap.size L) := (H.out.2.1.keep E4.out).grown H2.out (fun e => by have := NB _ e; omega)
        go_roundg (L.els.length - (k + 1))
        case measure => have := HG.out; omega
        case rel => exact ⟨k + 1, xs ++ [(k : Int)], by go_num, by omega, rfl, E5.out, L5.out, H1.out, by simp; omega⟩
    · obtain ⟨A1, c1, rfl, _, _⟩ := H.out.2.2.1.rd Nmc_len
      go_wp2
      go_ret
      exact ⟨A1, _, c1, rfl, H.out.1⟩
set_option maxHeartbeats 8000000 in
theorem name_any (s : ByteArray) (w : World) (hs : s.size ≤ maxLen) : Calls Tryd.prog 27 #[.string s] w (RetB (fun _ => True) w) := by
  unfold maxLen at hs
  go_enter Tryd.func27, Tryd.ntmps27
  go_wp2
  go_loopg [3] s.size (fun g ix wr => ∃ k : Nat, ix = .int .i64 k ∧ k ≤ s.size ∧ g = s.size - k ∧ Hid (Ext w wr))
  case atStart => exact ⟨0, rfl, by omega, by omega, Ext.refl _⟩
  case round =>
    obtain ⟨k, rfl, hk, hg, H⟩ := hrel
    have HG := Lib.hid hg
    clear hg
    by_cases hlt : k < s.size
    · go_wp2
      all_goals first | (go_ret; exact RetB.mk trivial H.out) | (go_roundg (s.size - (k + 1)))
      all_goals first | (have := HG.out; omega) | exact ⟨k + 1, by go_num, by omega, rfl, H.out⟩
    · go_wp2
      all_goals go_ret
      all_goals exact RetB.mk trivial H.out
end Go.Proofs.YtoodehilgogomaaDoor
