/- Walk of walk.Valid. -/
import Derived.Test.YtacnfchoemndeaaDoorWLayD
set_option linter.unusedVariables false
set_option linter.unusedSimpArgs false
set_option maxRecDepth 100000
namespace Go.Proofs.YtacnfchoemndeaaDoor
open Go.ChangeShapes Go.WideShapes Go.ChangeAt Go.RowKit
open Sg

theorem sl_st (A : Option Addr) (n c p : Nat) (q : Int) (hq : q = (p : Int)) (hp : p ≤ c) (w : World) : (Instr.slice 42 (.slice A n c) none (some (.int .i64 q)) none).run Tryd.prog w = .ok (.slice A p c) w := by
  subst hq
  rw [run_slice_h w 42 A n c (by kernel_rfl) .i64 (p : Int) (by omega) (by omega)]
  have hs : (sizeOf (Tryd.prog.elem 42)).run Tryd.prog w = .ok 3 w := by simp [go_sem]
  rw [hs]
  simp only [Result.andThen, sliced, Int.toNat_natCast, Nat.zero_mul, Nat.sub_zero]
  congr 2
  split
  · rfl
  · cases A with
    | none => rfl
    | some a => rfl
attribute [go_sem] sl_st
theorem cell_keep {u w : World} {b o : Nat} {v : Value} (l : b < u.heap.size) (h : Ext u w) (g : u.cell? ⟨b, o, none⟩ = some v) : w.cell? ⟨b, o, none⟩ = some v := (h.cell (p := ⟨b, o, none⟩) l).trans g
theorem lt_keep {u w : World} {b : Nat} (l : b < u.heap.size) (h : Ext u w) : b < w.heap.size := Nat.lt_of_lt_of_le l h.size
theorem wayTo_succ {els : List Elm} {jts : List Jnt} {way : List Stp} {k : Nat} {s : Stp} (h : WayTo els jts way k) (hs : way[k]? = some s) (h1 : StepOk els s) (h2 : ∀ j t, j < k → way[j]? = some t → t.el ≠ s.el) (h3 : ∀ t, 0 < k → way[k - 1]? = some t → PairOk jts t s) : WayTo els jts way (k + 1) := fun i t hi ht => by
  by_cases e : i = k
  · subst e; rw [hs] at ht; cases ht; exact ⟨h1, h2, h3⟩
  · exact h i t (by omega) ht
theorem way_no {els : List Elm} {jts : List Jnt} {way : List Stp} {k : Nat} {s : Stp} (hs : way[k]? = some s) (h : StepOk els s → (∀ j t, j < k → way[j]? = some t → t.el ≠ s.el) → (∀ t, 0 < k → way[k - 1]? = some t → PairOk jts t s) → False) : wayB els jts way = false :=
  wayB_false.2 fun hw => h (hw.2.2 k s (List.getElem?_eq_some_iff.1 hs).1 hs).1 (hw.2.2 k s (List.getElem?_eq_some_iff.1 hs).1 hs).2.1 (hw.2.2 k s (List.getElem?_eq_some_iff.1 hs).1 hs).2.2
/-- A layout's box. -/
abbrev LayAt (w : World) (b : Nat) (L : Lay) : Prop := CellsAt w b [.string L.name, .slice L.aS L.secs.length L.cS, .slice L.aE L.els.length L.cE, .slice L.aJ L.jts.length L.cJ, .slice L.aG L.sgs.length L.cG, .slice L.aB L.bals.length L.cB]
theorem layAt_cells {w : World} {b : Nat} {L : Lay} (h : LayAt w b L) : b < w.heap.size ∧ w.cell? ⟨b, 0, none⟩ = some (.string L.name) ∧ w.cell? ⟨b, 1, none⟩ = some (.slice L.aS L.secs.length L.cS) ∧ w.cell? ⟨b, 2, none⟩ = some (.slice L.aE L.els.length L.cE) ∧ w.cell? ⟨b, 3, none⟩ = some (.slice L.aJ L.jts.length L.cJ) ∧ w.cell? ⟨b, 4, none⟩ = some (.slice L.aG L.sgs.length L.cG) ∧ w.cell? ⟨b, 5, none⟩ = some (.slice L.aB L.bals.length L.cB) := ⟨h.1, h.2 0 _ rfl, h.2 1 _ rfl, h.2 2 _ rfl, h.2 3 _ rfl, h.2 4 _ rfl, h.2 5 _ rfl⟩
set_option maxHeartbeats 16000000 in
theorem valid_way (L : Lay) (A : Option Addr) (way : List Stp) (c : Nat) (w : World) (hL : LayOk w L) (hT : Tabs w) (hm : way.length ≤ maxLen) (hc : way.length ≤ c) (hr : Rd w A 3 Stc way) : Calls Tryd.prog 37 #[.agg #[.string L.name, .slice L.aS L.secs.length L.cS, .slice L.aE L.els.length L.cE, .slice L.aJ L.jts.length L.cJ, .slice L.aG L.sgs.length L.cG, .slice L.aB L.bals.length L.cB], .slice A way.length c] w fun e w' => e = .returned (.bool (wayB L.els L.jts way)) ∧ Below w.heap.size w w' := by
  unfold maxLen at hm
  have HL := Lib.hid hL
  have HT := Lib.hid hT
  have HR := Lib.hid hr
  clear hL hT hr
  by_cases k0 : way.length = 0
  · have HV : Hid (wayB L.els L.jts way = false) := wayB_false.2 (fun h => by have := h.1; omega)
    go_enter Tryd.func37, Tryd.ntmps37
    go_wp2
    go_ret
    exact ⟨ret_bool HV.out.symm, eal (Ext.refl _) _⟩
  by_cases k1 : 64 < way.length
  · have HV : Hid (wayB L.els L.jts way = false) := wayB_false.2 (fun h => by have := h.2.1; omega)
    go_enter Tryd.func37, Tryd.ntmps37
    go_wp2
    go_ret
    exact ⟨ret_bool HV.out.symm, eal (Ext.refl _) _⟩
  have HK0 := Lib.hid k0
  have HK1 := Lib.hid k1
  have HC := Lib.hid hc
  have q0 : ((way.length : Int) == 0) = false := by simpa using k0
  have q64 : decide ((64 : Int) < (way.length : Int)) = false := decide_eq_false (by omega)
  go_enter Tryd.func37, Tryd.ntmps37
  go_wp2_with (go_at_call 51; refine (passage_any L _).mono ?_; rintro e w' ⟨rfl, rfl⟩)
  clear k0 k1
  go_loopg [26] way.length (fun g ix wr => ∃ k : Nat, ix = .int .i64 k ∧ k ≤ way.length ∧ g = way.length - k ∧ Hid (Ext w wr ∧ LayAt wr w.heap.size L ∧ LayAt wr (w.heap.size + 1) L ∧ WayTo L.els L.jts way k))
  case atStart =>
    refine ⟨0, rfl, by omega, by omega, eal (eal (Ext.refl _) _) _, CellsAt.keep (CellsAt.new rfl) (eal (Ext.refl _) _), ?_, fun i s hi => absurd hi (by omega)⟩
    have := CellsAt.new (w := w.alloc (.cells #[.string L.name, .slice L.aS L.secs.length L.cS, .slice L.aE L.els.length L.cE, .slice L.aJ L.jts.length L.cJ, .slice L.aG L.sgs.length L.cG, .slice L.aB L.bals.length L.cB] 28)) (cs := #[.string L.name, .slice L.aS L.secs.length L.cS, .slice L.aE L.els.length L.cE, .slice L.aJ L.jts.length L.cJ, .slice L.aG L.sgs.length L.cG, .slice L.aB L.bals.length L.cB]) (t := 28) (b := w.heap.size + 1) (by simp)
    exact this
  case round =>
    obtain ⟨k, rfl, hk, hg, H⟩ := hrel
    have HG := Lib.hid hg
    clear hg
    by_cases hlt : k < way.length
    · obtain ⟨b, off, s, rfl, hs, hbs, c0, c1, c2⟩ := rd_st HR.out H.out.1 hlt
      have HS := Lib.hid hs
      clear hs
      obtain ⟨l0, a0, a1, a2, a3, a4, a5⟩ := layAt_cells H.out.2.1
      have E1 : Hid (Ext w (wr.alloc (.cells #[.int .i64 s.el, .int .i64 s.in_, .int .i64 s.out_] 58))) := eal H.out.1 _
      cases hp : possB L.els s
      · have HV : Hid (wayB L.els L.jts way = false) := way_no HS.out fun h _ _ => by rw [possB_true.2 h] at hp; cases hp
        have HP := Lib.hid hp
        clear hp
        go_wp2_with (go_at_call 52; refine (to_after (poss_any L s _ (HL.out.keep E1.out) (HT.out.keep E1.out))).mono ?_; rw [HP.out]; rintro e w' ⟨y, rfl, rfl⟩)
        go_ret
        exact ⟨ret_bool HV.out.symm, etr E1.out y.is⟩
      · have HO : Hid (StepOk L.els s) := possB_true.1 hp
        have HP := Lib.hid hp
        clear hp
        go_wp2_with (go_at_call 52; refine (to_after (poss_any L s _ (HL.out.keep E1.out) (HT.out.keep E1.out))).mono ?_; rw [HP.out]; rintro e w' ⟨y, rfl, rfl⟩)
        clear a0 a1 a2 a3 a4 a5 c0 c1 c2 l0 hbs
        have E2 : Hid (Ext w y.val) := etr E1.out y.is
        have S0 : Hid (y.val.cell? ⟨wr.heap.size, 0, none⟩ = some (.int .i64 s.el)) := (y.is.cell (p := ⟨wr.heap.size, 0, none⟩) (by simp)).trans (by simp [go_sem])
        have S1 : Hid (y.val.cell? ⟨wr.heap.size, 1, none⟩ = some (.int .i64 s.in_)) := (y.is.cell (p := ⟨wr.heap.size, 1, none⟩) (by simp)).trans (by simp [go_sem])
        have S2 : Hid (wr.heap.size < y.val.heap.size) := by have := y.is.size; simp at this; show _ < _; omega
        have L0 : Hid (LayAt y.val w.heap.size L) := H.out.2.1.keep (etr (eal (Ext.refl _) _) y.is)
        have L1 : Hid (LayAt y.val (w.heap.size + 1) L) := H.out.2.2.1.keep (etr (eal (Ext.refl _) _) y.is)
        have hkc : k ≤ c := by have := HC.out; omega
        go_loopg [43] k (fun g ix wr2 => ∃ j : Nat, ix = .int .i64 j ∧ j ≤ k ∧ g = k - j ∧ Hid (Ext y.val wr2 ∧ ∀ (i : Nat) t, i < j → way[i]? = some t → t.el ≠ s.el))
        case atStart => exact ⟨0, rfl, by omega, by omega, Ext.refl _, fun i t h => absurd h (by omega)⟩
        case round =>
          obtain ⟨j, rfl, hj, hg2, H2⟩ := hrel
          have HG2 := Lib.hid hg2
          clear hg2
          have e0 := cell_keep S2.out H2.out.1 S0.out
          have e1 := cell_keep S2.out H2.out.1 S1.out
          have e2 := lt_keep S2.out H2.out.1
          have E3 : Hid (Ext w wr) := etr E2.out H2.out.1
          by_cases hlt2 : j < k
          · obtain ⟨b', off', t, hA, ht, hbt, d0, d1, d2⟩ := rd_st (k := j) HR.out E3.out (by omega)
            injection hA with hA
            injection hA with hA1 hA2
            subst hA1 hA2
            by_cases he : t.el = s.el
            · have HV : Hid (wayB L.els L.jts way = false) := way_no HS.out fun _ h _ => h j t hlt2 ht he
              have q : (t.el == s.el) = true := by simp [he]
              clear he ht
              go_wp2
              go_ret
              exact ⟨ret_bool HV.out.symm, eal E3.out _⟩
            · have HN : Hid (∀ (i : Nat) t, i < j + 1 → way[i]? = some t → t.el ≠ s.el) := fun i u hi hu => by
                by_cases e : i = j
                · subst e; rw [ht] at hu; cases hu; exact he
                · exact H2.out.2 i u (by omega) hu
              have q : (t.el == s.el) = false := by simpa using he
              clear he ht
              go_wp2
              go_roundg (k - (j + 1))
              case measure => have := HG2.out; omega
              case rel => exact ⟨j + 1, by go_num, by omega, rfl, eal H2.out.1 _, HN.out⟩
          · have HN : Hid (∀ (i : Nat) t, i < k → way[i]? = some t → t.el ≠ s.el) := fun i u hi hu => H2.out.2 i u (by omega) hu
            by_cases hk0 : k = 0
            · have HW : Hid (WayTo L.els L.jts way (k + 1)) := wayTo_succ H.out.2.2.2 HS.out HO.out HN.out (fun t h => absurd h (by omega))
              go_wp2
              go_roundg (way.length - (k + 1))
              case measure => have := HG.out; omega
              case rel => exact ⟨k + 1, by go_num, by omega, rfl, E3.out, L0.out.keep H2.out.1, L1.out.keep H2.out.1, HW.out⟩
            · obtain ⟨b', off', t, hA, ht, hbt, d0, d1, d2⟩ := rd_st (k := k - 1) HR.out E3.out (by omega)
              injection hA with hA
              injection hA with hA1 hA2
              subst hA1 hA2
              have HTK := Lib.hid ht
              clear ht
              have hk0n : 0 < k := by omega
              have hkp : (0 : Int) < k := by omega
              have L2 : Hid (LayAt wr (w.heap.size + 1) L) := L1.out.keep H2.out.1
              cases jb : joinB L.jts (nextE t)
              · have HV : Hid (wayB L.els L.jts way = false) := way_no HS.out fun _ _ h => by have := (h t hk0n HTK.out).1; rw [show (⟨t.el, t.out_⟩ : Sg.End) = nextE t from rfl, jb] at this; cases this
                have JB := Lib.hid jb
                clear jb
                go_wp2_with (go_at_call 66; refine (to_after (pass_any L t (w.heap.size + 1) _ (HL.out.keep E3.out) L2.out)).mono ?_; rw [JB.out]; rintro e w' ⟨y, rfl, rfl⟩)
                go_ret
                exact ⟨ret_bool HV.out.symm, eal (etr E3.out (After.is _)) _⟩
              · have JB := Lib.hid jb
                by_cases hj1 : (joinV L.jts (nextE t)).el = s.el
                · have q1 : ((joinV L.jts (nextE t)).el != s.el) = false := by simp [hj1]
                  by_cases hj2 : (joinV L.jts (nextE t)).side = s.in_
                  · have q2 : ((joinV L.jts (nextE t)).side != s.in_) = false := by simp [hj2]
                    have HW : Hid (WayTo L.els L.jts way (k + 1)) := wayTo_succ H.out.2.2.2 HS.out HO.out HN.out (fun u _ hu => by rw [HTK.out] at hu; cases hu; exact ⟨jb, hj1, hj2⟩)
                    clear jb hj1 hj2
                    go_wp2_with (go_at_call 66; refine (to_after (pass_any L t (w.heap.size + 1) _ (HL.out.keep E3.out) L2.out)).mono ?_; rw [JB.out]; rintro e w' ⟨z, rfl, rfl⟩; have e5 := lt_keep e2 (After.is z))
                    go_roundg (way.length - (k + 1))
                    case measure => have := HG.out; omega
                    case rel => exact ⟨k + 1, by go_num, by omega, rfl, eal (etr E3.out (After.is _)) _, L0.out.keep (eal (etr H2.out.1 (After.is _)) _), L1.out.keep (eal (etr H2.out.1 (After.is _)) _), HW.out⟩
                  · have HV : Hid (wayB L.els L.jts way = false) := way_no HS.out fun _ _ h => hj2 (h t hk0n HTK.out).2.2
                    have q2 : ((joinV L.jts (nextE t)).side != s.in_) = true := by simpa using hj2
                    clear jb hj1 hj2
                    go_wp2_with (go_at_call 66; refine (to_after (pass_any L t (w.heap.size + 1) _ (HL.out.keep E3.out) L2.out)).mono ?_; rw [JB.out]; rintro e w' ⟨z, rfl, rfl⟩; have e5 := lt_keep e2 (After.is z))
                    go_ret
                    exact ⟨ret_bool HV.out.symm, eal (etr E3.out (After.is _)) _⟩
                · have HV : Hid (wayB L.els L.jts way = false) := way_no HS.out fun _ _ h => hj1 (h t hk0n HTK.out).2.1
                  have q1 : ((joinV L.jts (nextE t)).el != s.el) = true := by simpa using hj1
                  clear jb hj1
                  go_wp2_with (go_at_call 66; refine (to_after (pass_any L t (w.heap.size + 1) _ (HL.out.keep E3.out) L2.out)).mono ?_; rw [JB.out]; rintro e w' ⟨z, rfl, rfl⟩; have e5 := lt_keep e2 (After.is z))
                  go_ret
                  exact ⟨ret_bool HV.out.symm, eal (etr E3.out (After.is _)) _⟩
    · have e : k = way.length := by omega
      subst e
      have HV : Hid (wayB L.els L.jts way = true) := wayB_true.2 ⟨by have := HK0.out; omega, by have := HK1.out; omega, H.out.2.2.2⟩
      go_wp2
      go_ret
      exact ⟨ret_bool HV.out.symm, H.out.1⟩
end Go.Proofs.YtacnfchoemndeaaDoor
