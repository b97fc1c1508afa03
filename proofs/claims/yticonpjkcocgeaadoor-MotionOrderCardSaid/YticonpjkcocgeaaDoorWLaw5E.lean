/- Walk of MotionOrder. Printed by gen_law5e.py. -/
import Derived.Test.YticonpjkcocgeaaDoorWReaD
import Derived.Test.YticonpjkcocgeaaDoorWAlv5
import Derived.Test.YticonpjkcocgeaaDoorWFew5
set_option linter.unusedVariables false
set_option linter.unusedSimpArgs false
set_option maxRecDepth 100000
namespace Go.Proofs.YticonpjkcocgeaaDoor
open Go.ChangeShapes Go.WideShapes Go.ChangeAt Go.RowKit
open Sg

def zC : Cu := ⟨⟨0, ⟨#[]⟩, 0, 0, 0, 0, 0, 0, 0, 0⟩, 0, 0, 0, 0, 0, 0, 0, 0, [], [], 0, 0, 0, 0, false, 0⟩
/-- What the law asks of the readings. -/
def OrdP (r : List Rea) (n : Int) : Prop := (∀ x ∈ r, 0 ≤ x.off ∧ x.off ≤ n) ∧ r.Pairwise (fun x y => y.off ≤ x.off ∧ x.id ≠ y.id) ∧ (0 < n ∨ r = [])
theorem ord_ok {L : Lay} (hV : LayV L) (h32 : L.els.length ≤ 32) {pos : List Int} {l1 : List Stp} {head1 len1 d : Int} {M : Mvd} (hM : M = moveV L.els L.jts pos len1 l1 head1 d) : OrdP (readsV L.els L.jts L.bals l1 head1 len1 M.steps M.head len1) M.moved ∧ (l1.length ≤ 200 → M.steps.length ≤ 200) := by
  have hE5 : ∀ el, hasEl L.els el → 500 ≤ (elAt L.els el).len := fun el h => by
    obtain ⟨k, q, _, hq, e⟩ := has_at h
    rw [e]; exact (hV.els k q hq).2.2.1
  by_cases h : chkM L.els L.jts l1 head1 len1 = 0
  · have e : M = movV L.els L.jts pos len1 l1 head1 d := by rw [hM]; unfold moveV; rw [if_pos h]
    have hm := movV_ok (pos := pos) (d := d) hE5 (join_has hV.jts) h32 h
    rw [← e] at hm
    have hb := chkM_zero.1 h
    have hw := (chkM_zero.1 hm.2).1
    refine ⟨?_, fun _ => by have := hw.1.2.1; omega⟩
    exact ord_law (pos := pos) (bals := L.bals) (l1 := l1) (head1 := head1) e (fun k x hx => by have := hV.els k x hx; omega) hb.1.1.1 hb.1.2.2.2.2 hw.1 hw.2.2.2.1 (fun j b s hb => by
      unfold placeV
      split
      · rename_i hp
        split
        · exact (bal_bd hV.els hV.bals hb).1
        · have h3 := hV.bals j b hb
          have e2 : s.el = b.el := by unfold placeB at hp; simp at hp; exact hp.1
          unfold lenOf
          rw [e2]; omega
      · exact Int.le_refl _) (ids_pair hV) (by unfold readsV; rw [if_pos ⟨h, hm.2⟩])
  · have e : M = ⟨l1, head1, 0, false⟩ := by rw [hM]; unfold moveV; rw [if_neg h]
    subst e
    refine ⟨?_, fun h => h⟩
    have hr : readsV L.els L.jts L.bals l1 head1 len1 l1 head1 len1 = [] := by unfold readsV; rw [if_neg (fun g => h g.1)]
    show OrdP (readsV L.els L.jts L.bals l1 head1 len1 l1 head1 len1) 0
    rw [hr]
    exact ⟨fun x hx => by simp at hx, List.Pairwise.nil, .inr rfl⟩
section
set_option maxHeartbeats 32000000
theorem law_order (L : Lay) (Ap : Option Addr) (pos : List Int) (cp : Nat) (A1 : Option Addr) (l1 : List Stp) (c1 : Nat) (head1 len1 d : Int) (w : World) (hL : LayOk w L) (hT : Tabs w) (hp : RdI w Ap pos) (hpm : pos.length ≤ maxLen) (hr1 : Rd w A1 3 Stc l1) (hc1 : l1.length ≤ c1) :
    Calls Tryd.prog 3 #[.agg #[.string L.name, .slice L.aS L.secs.length L.cS, .slice L.aE L.els.length L.cE, .slice L.aJ L.jts.length L.cJ, .slice L.aG L.sgs.length L.cG, .slice L.aB L.bals.length L.cB], .slice Ap pos.length cp, .agg #[.slice A1 l1.length c1, .int .i64 head1, .int .i64 len1], .int .i64 d] w fun e w' => e = .returned (.bool true) ∧ Below w.heap.size w w' := by
  obtain ⟨w1, hw⟩ : ∃ w1, w1 = ((w.alloc (.cells #[.string L.name, .slice L.aS L.secs.length L.cS, .slice L.aE L.els.length L.cE, .slice L.aJ L.jts.length L.cJ, .slice L.aG L.sgs.length L.cG, .slice L.aB L.bals.length L.cB] 28)).alloc (.cells #[.slice A1 l1.length c1, .int .i64 head1, .int .i64 len1] 32)) := ⟨_, rfl⟩
  have E1 : Hid (Ext w w1) := by rw [hw]; exact eal (eal (Ext.refl _) _) _
  have L1 : Hid (LayAt w1 w.heap.size L) := by rw [hw]; exact CellsAt.alloc (CellsAt.new rfl) _
  have O1 : Hid (BdyAt w1 (w.heap.size + 1) A1 l1 c1 head1 len1) := by rw [hw]; exact CellsAt.new (by simp)
  have HL := Lib.hid hL
  have HT := Lib.hid hT
  have HP := Lib.hid hp
  have HPM := Lib.hid hpm
  have HR := Lib.hid hr1
  have HC := Lib.hid hc1
  have HFW : Hid (∀ w', Ext w w' → Calls Tryd.prog 8 #[.agg #[.string L.name, .slice L.aS L.secs.length L.cS, .slice L.aE L.els.length L.cE, .slice L.aJ L.jts.length L.cJ, .slice L.aG L.sgs.length L.cG, .slice L.aB L.bals.length L.cB], .slice Ap pos.length cp, .agg #[.slice A1 l1.length c1, .int .i64 head1, .int .i64 len1, .int .i64 0, .int .i64 0, .int .i64 0, .int .i64 0, .string ⟨#[]⟩, .int .i64 0, .int .i64 0, .int .i64 0, .int .i64 0, .int .i64 0, .int .i64 0, .int .i64 0, .int .i64 0, .int .i64 0, .int .i64 0, .int .i64 0, .int .i64 0, .int .i64 0, .int .i64 0, .int .i64 0, .int .i64 0, .slice none 0 0, .slice none 0 0, .int .i64 0, .int .i64 0, .int .i64 0, .int .i64 0, .bool false, .int .i64 0]] w' (RetB (fun b => b = true → Few5 L pos l1 zC) w')) := fun w' h => few5_any L Ap pos cp A1 l1 c1 head1 len1 0 0 0 zC none 0 none 0 w' (HL.out.keep h) (by show (0 : Nat) ≤ maxLen; omega)
  have HAL : Hid (∀ w', Ext w w' → Calls Tryd.prog 9 #[] w' fun e w2 => e = .returned (.bool true) ∧ Below w'.heap.size w' w2) := fun w' h => alive5_any w' (HT.out.keep h)
  obtain ⟨M, hM⟩ : ∃ M, M = moveV L.els L.jts pos len1 l1 head1 d := ⟨_, rfl⟩
  obtain ⟨r, hr⟩ : ∃ r, r = readsV L.els L.jts L.bals l1 head1 len1 M.steps M.head len1 := ⟨_, rfl⟩
  have HOR : Hid (Few5 L pos l1 zC → OrdP r M.moved ∧ M.steps.length ≤ 200 ∧ r.length ≤ 24) := fun F => by
    have h := ord_ok F.lay F.els hM
    exact ⟨by rw [hr]; exact h.1, h.2 (by have := F.way; omega), by rw [hr]; exact readsV_len F.lay⟩
  have HMV : Hid (Few5 L pos l1 zC → ∀ w', Ext w w' → Calls Tryd.prog 10 #[.agg #[.string L.name, .slice L.aS L.secs.length L.cS, .slice L.aE L.els.length L.cE, .slice L.aJ L.jts.length L.cJ, .slice L.aG L.sgs.length L.cG, .slice L.aB L.bals.length L.cB], .slice Ap pos.length cp, .agg #[.slice A1 l1.length c1, .int .i64 head1, .int .i64 len1], .int .i64 d] w' (MovRet w' len1 (chkM L.els L.jts l1 head1 len1 = 0) M)) := fun F w' h => by
    rw [hM]
    exact move_any L Ap pos cp A1 l1 c1 head1 len1 d w' (HL.out.keep h) (HT.out.keep h) F.lay.els F.lay.jts F.els (HR.out.keep h) (HP.out.below h (Nat.le_refl _)) HPM.out (by have := F.way; omega)
  have HRE : Hid (Few5 L pos l1 zC → M.steps.length ≤ 200 → ∀ (A2 : Option Addr) (c2 : Nat) (w' : World), Ext w w' → Rd w' A2 3 Stc M.steps → M.steps.length ≤ c2 → Calls Tryd.prog 11 #[.agg #[.string L.name, .slice L.aS L.secs.length L.cS, .slice L.aE L.els.length L.cE, .slice L.aJ L.jts.length L.cJ, .slice L.aG L.sgs.length L.cG, .slice L.aB L.bals.length L.cB], .agg #[.slice A1 l1.length c1, .int .i64 head1, .int .i64 len1], .agg #[.slice A2 M.steps.length c2, .int .i64 M.head, .int .i64 len1]] w' (ReadsRet w' r)) := fun F hm A2 c2 w' h h2 h3 => by
    rw [hr]
    exact reads_all L A1 l1 c1 head1 len1 A2 M.steps c2 M.head len1 w' (HL.out.keep h) (HT.out.keep h) F.lay (HR.out.keep h) (by have := F.way; omega) HC.out h2 hm h3
  clear hL hT hp hpm hr1 hc1 hM hr
  go_enter Tryd.func3, Tryd.ntmps3
  go_upto_region 1 with (fail)
  rw [← hw]
  clear hw
  obtain ⟨l0, a0, a1, a2, a3, a4, a5⟩ := layAt_cells L1.out
  obtain ⟨b0, b1, b2, b3⟩ := bdyAt_cells O1.out
  go_wp2_with fail
  clear l0 a0 a1 a2 a3 a4 a5 b0 b1 b2 b3
  refine (HFW.out _ E1.out).mono ?_
  rintro e w2 ⟨bb, rfl, hP, hb⟩
  have HF := Lib.hid hP
  have E2 := Lib.hid (etr E1.out hb)
  have L2 : Hid (LayAt w2 w.heap.size L) := L1.out.keep hb
  have O2 : Hid (BdyAt w2 (w.heap.size + 1) A1 l1 c1 head1 len1) := O1.out.keep hb
  clear hP hb
  cases bb
  · go_wp2_with fail
    refine (HAL.out _ E2.out).mono ?_
    rintro e w3 ⟨rfl, hb⟩
    have E3 := Lib.hid (etr E2.out hb)
    clear hb
    go_wp2
    go_ret
    exact ⟨rfl, E3.out⟩
  have HFF := Lib.hid (HF.out rfl)
  have HMM := Lib.hid (HMV.out HFF.out)
  have HOO := Lib.hid (HOR.out HFF.out)
  have HRR := Lib.hid (HRE.out HFF.out HOO.out.2.1)
  clear HF HMV HOR HRE
  obtain ⟨l0, a0, a1, a2, a3, a4, a5⟩ := layAt_cells L2.out
  obtain ⟨b0, b1, b2, b3⟩ := bdyAt_cells O2.out
  go_wp2_with fail
  clear l0 a0 a1 a2 a3 a4 a5 b0 b1 b2 b3
  refine (HMM.out _ E2.out).mono ?_
  rintro e w3 ⟨A2, c2, _, rfl, hr2, hc2, hb⟩
  have E3 := Lib.hid (etr E2.out hb)
  have L3 : Hid (LayAt w3 w.heap.size L) := L2.out.keep hb
  have O3 : Hid (BdyAt w3 (w.heap.size + 1) A1 l1 c1 head1 len1) := O2.out.keep hb
  have R3 := Lib.hid hr2
  have C3 := Lib.hid hc2
  clear hr2 hc2 hb
  go_upto_region 4 with (fail)
  obtain ⟨w4, hw⟩ : ∃ w4, w4 = w3.alloc (.cells #[.slice A2 M.steps.length c2, .int .i64 M.head, .int .i64 len1] 32) := ⟨_, rfl⟩
  rw [← hw]
  have g4 : Ext w3 w4 := by rw [hw]; exact eal (Ext.refl _) _
  have E4 := Lib.hid (etr E3.out g4)
  have L4 : Hid (LayAt w4 w.heap.size L) := L3.out.keep g4
  have O4 : Hid (BdyAt w4 (w.heap.size + 1) A1 l1 c1 head1 len1) := O3.out.keep g4
  have N4 : Hid (BdyAt w4 w3.heap.size A2 M.steps c2 M.head len1) := by rw [hw]; exact CellsAt.new rfl
  have R4 := Lib.hid (R3.out.keep g4)
  clear hw g4
  obtain ⟨l0, a0, a1, a2, a3, a4, a5⟩ := layAt_cells L4.out
  obtain ⟨b0, b1, b2, b3⟩ := bdyAt_cells O4.out
  obtain ⟨d0, d1, d2, d3⟩ := bdyAt_cells N4.out
  go_wp2_with fail
  clear l0 a0 a1 a2 a3 a4 a5 b0 b1 b2 b3 d0 d1 d2 d3
  refine (HRR.out _ _ _ E4.out R4.out C3.out).mono ?_
  rintro e w5 ⟨A5, c5, rfl, hr5, hb⟩
  have E5 := Lib.hid (etr E4.out hb)
  have R5 := Lib.hid hr5
  clear hr5 hb
  have hrl := HOO.out.2.2
  have HOP : Hid (OrdP r M.moved) := HOO.out.1
  go_wp2
  go_loopg [13] r.length (fun gg ix wr => ∃ (i : Nat), ix = .int .i64 i ∧ i ≤ r.length ∧ gg = r.length - i ∧ Hid (Ext w5 wr))
  case atStart => exact ⟨0, rfl, by omega, by omega, Ext.refl _⟩
  case round =>
    obtain ⟨wi, rfl⟩ : ∃ wi : World, wi = wr := ⟨_, rfl⟩
    obtain ⟨i, rfl, hi, hg, X⟩ := hrel
    have HG := Lib.hid hg
    clear hg
    by_cases hlt : i < r.length
    · have q0 : decide ((i : Int) < (r.length : Int)) = true := decide_eq_true (by omega)
      obtain ⟨b, off, x, rfl, hx, hbs, c0, c1'⟩ := rd_rea (k := i) R5.out X.out hlt
      have HXX := Lib.hid hx
      have hxo := HOP.out.1 x (List.mem_of_getElem? hx)
      have t1 : decide (x.off < 0) = false := decide_eq_false (by omega)
      have t2 : decide (M.moved < x.off) = false := decide_eq_false (by omega)
      clear hx hxo
      have hin : Hid (∀ (u : After wi), True) := fun _ => trivial
      rcases Nat.eq_zero_or_pos i with h0 | h0
      · have t0 : decide ((0 : Int) < (i : Int)) = false := decide_eq_false (by omega)
        have t0n : decide (0 < i) = false := decide_eq_false (by omega)
        have H0 := Lib.hid h0
        clear h0
        go_upto_region 8 with (fail)
        refine wp_region_after (by kernel_rfl) (by kernel_rfl) ?_
        repeat (first | go_big_quiet_step (fail))
        refine wpQuiet_nil ?_
        rintro _ ⟨y8, rfl⟩
        have X8 : Hid (Ext w5 y8.val) := etr X.out y8.is
        clear c0 c1' t1 t2 t0 t0n
        go_wp2
        go_loopg [14] i (fun gg ix wr => ∃ (k : Nat), ix = .int .i64 k ∧ k ≤ i ∧ gg = i - k ∧ Hid (Ext w5 wr))
        case atStart => exact ⟨0, rfl, by omega, by omega, X8.out⟩
        case round =>
          obtain ⟨wj, rfl⟩ : ∃ wj : World, wj = wr := ⟨_, rfl⟩
          obtain ⟨k, rfl, hk, hg2, XJ⟩ := hrel
          have HG2 := Lib.hid hg2
          clear hg2
          by_cases hlk : k < i
          · have q3 : decide ((k : Int) < (i : Int)) = true := decide_eq_true (by omega)
            obtain ⟨b', off', z, hA', hz, hbs', e0, e1'⟩ := rd_rea (k := k) R5.out XJ.out (by omega)
            cases hA'
            obtain ⟨b', off', x', hA', hx', _, c0, c1'⟩ := rd_rea (k := i) R5.out XJ.out hlt
            cases hA'
            obtain rfl : x' = x := by have := HXX.out; rw [hx'] at this; cases this; rfl
            have hid := HOP.out.2.1
            have t3 : (z.id == x'.id) = false := by
              obtain ⟨g1, rfl⟩ := List.getElem?_eq_some_iff.1 hz
              obtain ⟨g2, g3⟩ := List.getElem?_eq_some_iff.1 HXX.out
              have := (List.pairwise_iff_getElem.1 hid k i g1 g2 hlk).2
              rw [g3] at this
              simpa using this
            clear hz hx' hid
            go_upto_region 13 with (fail)
            refine wp_region_after (by kernel_rfl) (by kernel_rfl) ?_
            repeat (first | go_big_quiet_step (fail))
            refine wpQuiet_nil ?_
            rintro _ ⟨y9, rfl⟩
            clear c0 c1' e0 e1'
            go_wp2
            go_roundg (i - (k + 1))
            case measure => have := HG2.out; omega
            case rel => exact ⟨k + 1, by go_num, by omega, rfl, etr XJ.out y9.is⟩
          · have q3 : decide ((k : Int) < (i : Int)) = false := decide_eq_false (by omega)
            go_wp2
            go_roundg (r.length - (i + 1))
            case measure => have := HG.out; omega
            case rel => exact ⟨i + 1, by go_num, by omega, rfl, XJ.out⟩
      · have t0 : decide ((0 : Int) < (i : Int)) = true := decide_eq_true (by omega)
        have t0n : decide (0 < i) = true := decide_eq_true h0
        obtain ⟨i1, hi1⟩ : ∃ i1, i1 = i - 1 := ⟨_, rfl⟩
        have n1 : IntKind.i64.wrap ((i : Int) - 1) = (i1 : Int) := by rw [IntWalk.i64_in _ (by omega)]; omega
        obtain ⟨b', off', y, hA', hy, _, f0, f1⟩ := rd_rea (k := i1) R5.out X.out (by omega)
        cases hA'
        have t3 : decide (y.off < x.off) = false := decide_eq_false (by
          obtain ⟨g1, rfl⟩ := List.getElem?_eq_some_iff.1 hy
          obtain ⟨g2, g3⟩ := List.getElem?_eq_some_iff.1 HXX.out
          have := (List.pairwise_iff_getElem.1 HOP.out.2.1 i1 i g1 g2 (by omega)).1
          rw [g3] at this
          omega)
        have i1n : i1 < r.length := by omega
        clear hi1 hy
        go_upto_region 8 with (fail)
        refine wp_region_after (by kernel_rfl) (by kernel_rfl) ?_
        repeat (first | go_big_quiet_step (fail))
        refine wpQuiet_nil ?_
        rintro _ ⟨y8, rfl⟩
        have X8 : Hid (Ext w5 y8.val) := etr X.out y8.is
        clear c0 c1' t1 t2 t0 t0n n1 f0 f1 t3 i1n
        go_wp2
        go_loopg [14] i (fun gg ix wr => ∃ (k : Nat), ix = .int .i64 k ∧ k ≤ i ∧ gg = i - k ∧ Hid (Ext w5 wr))
        case atStart => exact ⟨0, rfl, by omega, by omega, X8.out⟩
        case round =>
          obtain ⟨wj, rfl⟩ : ∃ wj : World, wj = wr := ⟨_, rfl⟩
          obtain ⟨k, rfl, hk, hg2, XJ⟩ := hrel
          have HG2 := Lib.hid hg2
          clear hg2
          by_cases hlk : k < i
          · have q3 : decide ((k : Int) < (i : Int)) = true := decide_eq_true (by omega)
            obtain ⟨b', off', z, hA', hz, hbs', e0, e1'⟩ := rd_rea (k := k) R5.out XJ.out (by omega)
            cases hA'
            obtain ⟨b', off', x', hA', hx', _, c0, c1'⟩ := rd_rea (k := i) R5.out XJ.out hlt
            cases hA'
            obtain rfl : x' = x := by have := HXX.out; rw [hx'] at this; cases this; rfl
            have hid := HOP.out.2.1
            have t3 : (z.id == x'.id) = false := by
              obtain ⟨g1, rfl⟩ := List.getElem?_eq_some_iff.1 hz
              obtain ⟨g2, g3⟩ := List.getElem?_eq_some_iff.1 HXX.out
              have := (List.pairwise_iff_getElem.1 hid k i g1 g2 hlk).2
              rw [g3] at this
              simpa using this
            clear hz hx' hid
            go_upto_region 13 with (fail)
            refine wp_region_after (by kernel_rfl) (by kernel_rfl) ?_
            repeat (first | go_big_quiet_step (fail))
            refine wpQuiet_nil ?_
            rintro _ ⟨y9, rfl⟩
            clear c0 c1' e0 e1'
            go_wp2
            go_roundg (i - (k + 1))
            case measure => have := HG2.out; omega
            case rel => exact ⟨k + 1, by go_num, by omega, rfl, etr XJ.out y9.is⟩
          · have q3 : decide ((k : Int) < (i : Int)) = false := decide_eq_false (by omega)
            go_wp2
            go_roundg (r.length - (i + 1))
            case measure => have := HG.out; omega
            case rel => exact ⟨i + 1, by go_num, by omega, rfl, XJ.out⟩
    · have q0 : decide ((i : Int) < (r.length : Int)) = false := decide_eq_false (by omega)
      have EX : Hid (Ext w wi) := etr E5.out X.out
      rcases HOP.out.2.2 with h1 | h1
      · have t1 : decide (0 < M.moved) = true := decide_eq_true h1
        have HH1 := Lib.hid h1
        clear h1
        go_wp2_with fail
        refine (HAL.out _ EX.out).mono ?_
        rintro e w8 ⟨rfl, hb⟩
        have E8 := Lib.hid (etr EX.out hb)
        clear hb
        go_wp2
        go_ret
        exact ⟨rfl, E8.out⟩
      · have hz : r.length = 0 := by rw [h1]; rfl
        have t2 : ((r.length : Int) == 0) = true := by rw [hz]; rfl
        have HH1 := Lib.hid h1
        have HHZ := Lib.hid hz
        clear h1 hz
        cases t1 : decide (0 < M.moved)
        all_goals
          go_wp2_with fail
          refine (HAL.out _ EX.out).mono ?_
          rintro e w8 ⟨rfl, hb⟩
          have E8 := Lib.hid (etr EX.out hb)
          clear hb
          go_wp2
          go_ret
          exact ⟨rfl, E8.out⟩
end
end Go.Proofs.YticonpjkcocgeaaDoor
