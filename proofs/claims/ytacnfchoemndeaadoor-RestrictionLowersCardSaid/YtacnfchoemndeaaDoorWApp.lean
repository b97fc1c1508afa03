/- Walk of restriction.Apply: a deferred closure recovers from noRoom. -/
import Derived.Test.YtacnfchoemndeaaDoorWLow
import Derived.Test.YtacnfchoemndeaaDoorLibSeg2
import Derived.Test.YtacnfchoemndeaaDoorWRstA
import Derived.Defers
import Derived.Recover
set_option linter.unusedVariables false
set_option linter.unusedSimpArgs false
set_option maxRecDepth 100000
namespace Go.Proofs.YtacnfchoemndeaaDoor
open Go.ChangeShapes Go.WideShapes Go.ChangeAt Go.RowKit
open Sg

theorem set1 {w : World} {b : Nat} {us : List Value} (v0 : Value) (h : Own w b us) (h1 : us.length = 1) : ∃ w', w' = w.setCell ⟨b, 0, none⟩ v0 ∧ Own w' b [v0] ∧ Only b w w' := by
  refine ⟨_, rfl, ?_, Only.set _ _ _ _⟩
  match us, h1 with
  | [u0], _ => exact h.set 0 (by simp) v0
theorem catch_idle (p : Addr) (w : World) :
    CallsD Tryd.prog 34 #[.pointer (some p)] .returning w fun e u' w' => e = .returned (.tuple #[]) ∧ u' = .returning ∧ w' = w := by
  refine callsD_of_wpS Tryd.func34 rfl fun c₀ cs hu => ?_
  apply wpS_seq
  apply wpS_region
  simp [wpOpsS, go_sem, recoverD, hu, Tryd.ntmps34, Exit.thenS]
  refine wpS_cond (t := false) (by simp [Act.eval, Array.replicate]) ?_
  simp only [Bool.false_eq_true, if_false]
  refine wpS_of_wp (wp_skip ?_)
  cases c₀
  simp_all [bodyPostS, results, Tryd.results34]
theorem catch_panicking (p : Addr) (x : Value) (u : TypeId) (pv : Value) (older : List PanicEntry) (w : World) (hc : w.cell? p = some x) (hz : w.frozen? p = false) :
    CallsD Tryd.prog 34 #[.pointer (some p)] (.panicking ({ v := .iface u pv, recovered := false } :: older)) w fun e u' w' =>
      e = .returned (.tuple #[]) ∧ u' = .panicking ({ v := .iface u pv, recovered := true } :: older) ∧ w' = w.setCell p (.slice none 0 0) := by
  refine callsD_of_wpS Tryd.func34 rfl fun c₀ cs hu => ?_
  apply wpS_seq
  apply wpS_region
  simp [wpOpsS, go_sem, recoverD, hu, Tryd.ntmps34, Exit.thenS]
  refine wpS_cond (t := true) (by simp [Act.eval, Array.replicate]) ?_
  simp only [if_true]
  apply wpS_region
  simp [wpOpsS, go_sem, hc, hz, bodyPostS, results, Tryd.results34]
theorem apL_no {els : List Elm} {jts : List Jnt} {l : List Rst} {way : List Stp} {c : Int} {p : List Sgm} (h : ¬ ApOk els jts way c p) : appL els jts l way c p = p := by unfold appL; rw [if_neg h]
theorem apL_yes {els : List Elm} {jts : List Jnt} {l : List Rst} {way : List Stp} {c : Int} {p : List Sgm} (h : ApOk els jts way c p) : appL els jts l way c p = allF els way c l p := by unfold appL; rw [if_pos h]
theorem way_in {els : List Elm} {jts : List Jnt} {way : List Stp} (h : Sg.Way els jts way) : WayIn els way := fun k s hs => (h.step hs).1
theorem door_ret {fn : Func} {tmps : Array Value} {w : World} {R : Ending → World → Prop} {p : Addr} {v : Value} (hv : (results fn tmps).run Tryd.prog w = .ok v w) (hR : R (.returned v) w) :
    Go.Leaves Tryd.prog fn tmps R [{ target := .fn (.func 34) #[.pointer (some p)], args := #[] }] .returning w := by
  refine Go.leaves_cons (f := 34) (args := #[.pointer (some p)]) (by simp) (by simp [go_sem]) ?_
  refine (catch_idle p w).mono ?_
  rintro e u' w'' ⟨rfl, rfl, rfl⟩
  exact ⟨v, hv, hR⟩
theorem door_panic {fn : Func} {tmps : Array Value} {w : World} {R : Ending → World → Prop} {p : Addr} {v x : Value} {u : TypeId} {pv : Value} (hc : w.cell? p = some x) (hz : w.frozen? p = false) (hv : (results fn tmps).run Tryd.prog (w.setCell p (.slice none 0 0)) = .ok v (w.setCell p (.slice none 0 0))) (hR : R (.returned v) (w.setCell p (.slice none 0 0))) :
    Go.Leaves Tryd.prog fn tmps R [{ target := .fn (.func 34) #[.pointer (some p)], args := #[] }] (.panicking [{ v := .iface u pv, recovered := false }]) w := by
  refine Go.leaves_cons (f := 34) (args := #[.pointer (some p)]) (by simp) (by simp [go_sem]) ?_
  refine (catch_panicking p x u pv [] w hc hz).mono ?_
  rintro e u' w'' ⟨rfl, rfl, rfl⟩
  exact ⟨v, hv, hR⟩
set_option maxHeartbeats 16000000 in
theorem apply_any (L : Lay) (Al : Option Addr) (l : List Rst) (cl : Nat) (A : Option Addr) (way : List Stp) (c : Nat) (c0 : Int) (B : Option Addr) (p : List Sgm) (cp : Nat) (w : World) (hL : LayOk w L) (hT : Tabs w) (hE : ElsOk L.els) (hl : Rd w Al 6 Rsc l) (hlm : l.length ≤ maxLen)
    (hr : Rd w A 3 Stc way) (hm : way.length ≤ maxLen) (hc : way.length ≤ c) (hp : Rd w B 4 Sgc p) (hpl : p.length ≤ 1000000) :
    Calls Tryd.prog 19 #[.slice Al l.length cl, .slice A way.length c, .int .i64 c0, .agg #[.string L.name, .slice L.aS L.secs.length L.cS, .slice L.aE L.els.length L.cE, .slice L.aJ L.jts.length L.cJ, .slice L.aG L.sgs.length L.cG, .slice L.aB L.bals.length L.cB], .slice B p.length cp] w fun e w' => ∃ A' cap', e = .returned (.slice A' (appL L.els L.jts l way c0 p).length cap') ∧ Rd w' A' 4 Sgc (appL L.els L.jts l way c0 p) ∧ (appL L.els L.jts l way c0 p).length ≤ 1000000 ∧ Below w.heap.size w w' := by
  have hmf : ∀ (fn : Fn) (first cap : Array Value) (w : World), (Instr.makeFunc fn first cap).run Tryd.prog w = .ok (.func fn first cap) w := fun _ _ _ _ => rfl
  have HL := Lib.hid hL
  have HT := Lib.hid hT
  have HE := Lib.hid hE
  have HR := Lib.hid hr
  have HRL := Lib.hid hl
  have HP := Lib.hid hp
  have HPL := Lib.hid hpl
  have HM := Lib.hid hm
  have HC := Lib.hid hc
  clear hL hT hE hr hl hp hm hc
  unfold maxLen at hlm
  by_cases hap : ApOk L.els L.jts way c0 p
  · have HA : Hid (appL L.els L.jts l way c0 p = allF L.els way c0 l p) := apL_yes hap
    obtain ⟨v1, v2, v3, v4⟩ := hap
    have K1 : Hid (validB p = true) := validB_true.2 v1
    have K2 : Hid (wayB L.els L.jts way = true) := wayB_true.2 v2
    have HWI : Hid (WayIn L.els way) := way_in v2
    have HWL : Hid (way.length ≤ 64) := v2.2.1
    have k3 : decide (c0 < -1073741824) = false := decide_eq_false (by omega)
    have k4 : decide (1073741824 < c0) = false := decide_eq_false (by omega)
    have HK3 := Lib.hid v3
    have HK4 := Lib.hid v4
    clear v1 v2 v3 v4
    go_enter_defers Tryd.func19, Tryd.ntmps19
    go_upto_region 3 with (go_at_call 35; refine (clone_Seg B p cp _ HPL.out (HP.out.keep (eal (eal (Ext.refl _) _) _))).mono ?_; rintro e w1 ⟨v, rfl, ho, hb⟩; obtain ⟨A0, cap0, rfl, hr0, hm0, hg0⟩ := OwnL.rdn Sgc_len ho; have HB0 := Lib.hid hb; have HR0 := Lib.hid hr0; have HG0 : Hid (∀ a, A0 = some a → a.block ≠ w.heap.size + 1) := fun a ha => (by have := hg0 a ha; simp at this; omega); have HO1 : Own w1 (w.heap.size + 1) [.slice none 0 0] := (Own.new (by simp)).keep hb; have HL1 : Hid (LayAt w1 w.heap.size L) := CellsAt.keep (CellsAt.keep (CellsAt.new rfl) (eal (Ext.refl _) _)) hb; have y1 := HO1.2.1 0 _ rfl; have z1 := HO1.2.2 0; have HOW := Lib.hid HO1; clear ho hb HO1 hr0 hm0 hg0)
    obtain ⟨w2, hw2, HO2, HN2⟩ := set1 (.slice A0 p.length cap0) HOW.out rfl
    rw [← hw2]
    have E2 : Hid (Ext w w2) := eonly (etr (eal (eal (Ext.refl _) _) _) HB0.out) HN2 (by omega)
    have L2 : Hid (LayAt w2 w.heap.size L) := CellsAt.only HL1.out HN2 (by omega)
    have R2 : Hid (Rd w2 A0 4 Sgc p) := Rd.only HR0.out HN2 HG0.out
    have G2 := HG0
    have HO := Lib.hid HO2
    clear y1 z1 hw2 HN2 HOW HL1 HB0 HR0 HG0 HO2
    obtain ⟨l0, a0, a1, a2, a3, a4, a5⟩ := layAt_cells L2.out
    have y2 := HO.out.2.1 0 _ rfl
    have z2 := HO.out.2.2 0
    have x2 := HO.out.1
    have HV1 := valid_any B p cp w2 (by unfold maxLen; omega) (HP.out.keep E2.out)
    have HVH := Lib.hid HV1
    clear HV1
    have HV1 := HVH
    clear HVH
    go_wp2_with (first
      | (go_at_call 36; refine (to_after HV1.out).mono ?_; rw [K1.out]; rintro e w' ⟨ya, rfl, rfl⟩)
      | (go_at_call 37; refine (in_after _ (valid_way L A way c _ (HL.out.keep (etr E2.out (After.is _))) (HT.out.keep (etr E2.out (After.is _))) HM.out HC.out (HR.out.keep (etr E2.out (After.is _))))).mono ?_; rw [K2.out]; rintro e w' ⟨yb, rfl, rfl⟩))
    have E3 : Hid (Ext w yb.val) := etr E2.out yb.is
    have S1 : Hid (LayAt yb.val w.heap.size L ∧ Own yb.val (w.heap.size + 1) [.slice A0 p.length cap0] ∧ Rd yb.val A0 4 Sgc p) := ⟨L2.out.keep yb.is, HO.out.keep yb.is, R2.out.keep yb.is⟩
    clear l0 a0 a1 a2 a3 a4 a5 y2 z2 x2
    go_loopg [36] l.length (fun g ix wr => ∃ (k : Nat) (A' : Option Addr) (q : List Sgm) (cq : Nat), ix = .int .i64 k ∧ k ≤ l.length ∧ g = l.length - k ∧ Hid (Ext w wr ∧ LayAt wr w.heap.size L ∧ Own wr (w.heap.size + 1) [.slice A' q.length cq] ∧ Rd wr A' 4 Sgc q ∧ q.length ≤ 1000000 ∧ q = allTo L.els way c0 l k p ∧ ∀ a, A' = some a → a.block ≠ w.heap.size + 1))
    case atStart => exact ⟨0, A0, p, cap0, rfl, by omega, by omega, E3.out, S1.out.1, S1.out.2.1, S1.out.2.2, hpl, rfl, G2.out⟩
    case round =>
      obtain ⟨k, A', q, cq, rfl, hk, hg, H⟩ := hrel
      have HG := Lib.hid hg
      clear hg
      by_cases hlt : k < l.length
      · obtain ⟨b, off, r, rfl, hs, hbs, d0, d1, d2, d3, d4, d5⟩ := rd_rs HRL.out H.out.1 hlt
        have HS := Lib.hid hs
        clear hs
        obtain ⟨l0, a0, a1, a2, a3, a4, a5⟩ := layAt_cells H.out.2.1
        have y0 := H.out.2.2.1.2.1 0 _ rfl
        have z0 := H.out.2.2.1.2.2 0
        have x0 := H.out.2.2.1.1
        have l1 : w.heap.size < wr.heap.size + 1 := by omega
        have x1 : w.heap.size + 1 < wr.heap.size + 1 := by omega
        cases hact : r.act
        · rw [hact] at d5
          have HQ : Hid (q = allTo L.els way c0 l (k + 1) p) := by
            show _ = _
            rw [allTo_succ HS.out, if_neg (fun h => by have := h.1; rw [hact] at this; cases this), ← H.out.2.2.2.2.2.1]
          have HAC := Lib.hid hact
          clear hact
          go_wp2
          go_roundg (l.length - (k + 1))
          case measure => have := HG.out; omega
          case rel => exact ⟨k + 1, A', q, cq, by go_num, by omega, rfl, eal H.out.1 _, H.out.2.1.keep (eal (Ext.refl _) _), H.out.2.2.1.keep (eal (Ext.refl _) _), H.out.2.2.2.1.keep (eal (Ext.refl _) _), H.out.2.2.2.2.1, HQ.out, H.out.2.2.2.2.2.2⟩
        · have HCK : Hid (∀ w', Ext w w' → Calls Tryd.prog 12 #[.agg #[.string L.name, .slice L.aS L.secs.length L.cS, .slice L.aE L.els.length L.cE, .slice L.aJ L.jts.length L.cJ, .slice L.aG L.sgs.length L.cG, .slice L.aB L.bals.length L.cB], (.agg #[.int .i64 r.id, .int .i64 r.el, .int .i64 r.from_, .int .i64 r.to_, .int .i64 r.speed, .bool true])] w' fun e w'' => e = .returned (.int .i64 (chkE L.els r)) ∧ Below w'.heap.size w' w'') := fun w' h => by
            have := chk_any L r w' (HL.out.keep h)
            rw [hact] at this
            exact this
          rw [hact] at d5
          have HAC := Lib.hid hact
          clear hact
          have E4 : Hid (Ext wr (wr.alloc (.cells #[.int .i64 r.id, .int .i64 r.el, .int .i64 r.from_, .int .i64 r.to_, .int .i64 r.speed, .bool true] 31))) := eal (Ext.refl _) _
          have E5 : Hid (Ext w (wr.alloc (.cells #[.int .i64 r.id, .int .i64 r.el, .int .i64 r.from_, .int .i64 r.to_, .int .i64 r.speed, .bool true] 31))) := eal H.out.1 _
          by_cases hok : OkR L.els r
          · have HQ1 : Hid (allTo L.els way c0 l (k + 1) p = lowF L.els r way c0 q) := by
              show _ = _
              rw [allTo_succ HS.out, if_pos ⟨HAC.out, hok⟩, ← H.out.2.2.2.2.2.1]
            have HCE : Hid (chkE L.els r = 0) := chkE_zero.2 hok
            have HLW : Hid (∀ w', Ext wr w' → Calls Tryd.prog 38 #[.agg #[.string L.name, .slice L.aS L.secs.length L.cS, .slice L.aE L.els.length L.cE, .slice L.aJ L.jts.length L.cJ, .slice L.aG L.sgs.length L.cG, .slice L.aB L.bals.length L.cB], .slice A way.length c, .int .i64 c0, .slice A' q.length cq, (.agg #[.int .i64 r.id, .int .i64 r.el, .int .i64 r.from_, .int .i64 r.to_, .int .i64 r.speed, .bool true])] w' fun e w'' => Below w'.heap.size w' w'' ∧ ((¬ LowDead L.els r way c0 q ∧ ∃ A3 cap', e = .returned (.slice A3 (lowF L.els r way c0 q).length cap') ∧ Rd w'' A3 4 Sgc (lowF L.els r way c0 q) ∧ (lowF L.els r way c0 q).length ≤ 1000000 ∧ ∀ a, A3 = some a → a.block ≠ w.heap.size + 1) ∨ (LowDead L.els r way c0 q ∧ e = .panicked [{ v := .iface 91 (.agg #[]), recovered := false }]))) := fun w' h => by
              have := lowered_any L A way c c0 A' q cq r w' (HL.out.keep (etr H.out.1 h)) HE.out HWI.out (HR.out.keep (etr H.out.1 h)) HWL.out HK3.out HK4.out (H.out.2.2.2.1.keep h) H.out.2.2.2.2.1 hok (w.heap.size + 1) (Nat.lt_of_lt_of_le H.out.2.2.1.1 h.size) H.out.2.2.2.2.2.2
              rw [HAC.out] at this
              exact this
            have HOK := Lib.hid hok
            clear hok
            by_cases hd : LowDead L.els r way c0 q
            · have HD := Lib.hid hd
              have HF : Hid (appL L.els L.jts l way c0 p = []) := by
                show _ = _
                rw [HA.out]
                exact allTo_dead (k := k + 1) (by rw [HQ1.out]; exact hd.2) (by omega)
              clear hd
              go_wp2_with (first
                | (go_at_call 12; refine (to_after (HCK.out _ E5.out)).mono ?_; rw [HCE.out]; rintro e w' ⟨y1, rfl, rfl⟩)
                | (go_at_call 38; refine (HLW.out _ (etr E4.out (After.is _))).mono ?_; rintro e w' ⟨hb, hh⟩; obtain ⟨_, rfl⟩ := hh.resolve_left (fun g => g.1 HD.out); obtain ⟨y2, rfl⟩ : ∃ y2 : After (wr.alloc (.cells #[.int .i64 r.id, .int .i64 r.el, .int .i64 r.from_, .int .i64 r.to_, .int .i64 r.speed, .bool true] 31)), w' = y2.val := ⟨⟨w', etr (After.is _) hb⟩, rfl⟩; clear hb hh))
              (try simp only [Exit.inBlock, Exit.then])
              obtain ⟨w4, hw4, HO4, HN4⟩ := set1 (.slice none 0 0) (H.out.2.2.1.keep (etr E4.out (After.is ‹After (wr.alloc (.cells #[.int .i64 r.id, .int .i64 r.el, .int .i64 r.from_, .int .i64 r.to_, .int .i64 r.speed, .bool true] 31))›))) rfl
              have HOy := H.out.2.2.1.keep (etr E4.out (After.is ‹After (wr.alloc (.cells #[.int .i64 r.id, .int .i64 r.el, .int .i64 r.from_, .int .i64 r.to_, .int .i64 r.speed, .bool true] 31))›))
              refine door_panic (v := .slice none 0 0) (HOy.2.1 0 _ rfl) (HOy.2.2 0) (by rw [← hw4]; have := HO4.2.1 0 _ rfl; simp [results, Tryd.results19, go_sem, this]) ?_
              rw [← hw4]
              exact ⟨none, 0, by rw [HF.out]; rfl, by rw [HF.out]; exact Rd.nil, by rw [HF.out]; simp, eonly (etr E5.out (After.is _)) HN4 (by omega)⟩
            · have HND := Lib.hid hd
              clear hd
              go_wp2_with (first
                | (go_at_call 12; refine (to_after (HCK.out _ E5.out)).mono ?_; rw [HCE.out]; rintro e w' ⟨y1, rfl, rfl⟩)
                | (go_at_call 38; refine (HLW.out _ (etr E4.out (After.is _))).mono ?_; rintro e w' ⟨hb, hh⟩; obtain ⟨_, A3, cap3, rfl, hr3, hm3, hg3⟩ := hh.resolve_right (fun g => HND.out g.1); obtain ⟨y2, rfl⟩ : ∃ y2 : After (wr.alloc (.cells #[.int .i64 r.id, .int .i64 r.el, .int .i64 r.from_, .int .i64 r.to_, .int .i64 r.speed, .bool true] 31)), w' = y2.val := ⟨⟨w', etr (After.is _) hb⟩, rfl⟩; have HR3 : Hid (Rd y2.val A3 4 Sgc (lowF L.els r way c0 q)) := hr3; have HM3 := Lib.hid hm3; have HG3 := Lib.hid hg3; have EY : Hid (Ext (wr.alloc (.cells #[.int .i64 r.id, .int .i64 r.el, .int .i64 r.from_, .int .i64 r.to_, .int .i64 r.speed, .bool true] 31)) y2.val) := y2.is; clear hb hh hr3 hm3 hg3))
              obtain ⟨w4, hw4, HO4, HN4⟩ := set1 (.slice A3 (lowF L.els r way c0 q).length cap3) (H.out.2.2.1.keep (etr E4.out EY.out)) rfl
              rw [← hw4]
              have E6 : Hid (Ext w w4) := eonly (etr E5.out EY.out) HN4 (by omega)
              have L6 : Hid (LayAt w4 w.heap.size L) := CellsAt.only (H.out.2.1.keep (etr E4.out EY.out)) HN4 (by omega)
              have R6 : Hid (Rd w4 A3 4 Sgc (lowF L.els r way c0 q)) := Rd.only HR3.out HN4 HG3.out
              have O6 := Lib.hid HO4
              clear hw4 HN4 HO4
              go_roundg (l.length - (k + 1))
              case measure => have := HG.out; omega
              case rel => exact ⟨k + 1, A3, lowF L.els r way c0 q, cap3, by go_num, by omega, rfl, E6.out, L6.out, O6.out, R6.out, HM3.out, HQ1.out.symm, HG3.out⟩
          · have HQ : Hid (q = allTo L.els way c0 l (k + 1) p) := by
              show _ = _
              rw [allTo_succ HS.out, if_neg (fun h => hok h.2), ← H.out.2.2.2.2.2.1]
            have HCE : Hid (chkE L.els r = 1) := by
              show _ = _
              unfold chkE
              rw [if_neg hok]
            clear hok
            go_wp2_with (go_at_call 12; refine (to_after (HCK.out _ E5.out)).mono ?_; rw [HCE.out]; rintro e w' ⟨y1, rfl, rfl⟩)
            go_roundg (l.length - (k + 1))
            case measure => have := HG.out; omega
            case rel => exact ⟨k + 1, A', q, cq, by go_num, by omega, rfl, etr E5.out (After.is _), H.out.2.1.keep (etr E4.out (After.is _)), H.out.2.2.1.keep (etr E4.out (After.is _)), H.out.2.2.2.1.keep (etr E4.out (After.is _)), H.out.2.2.2.2.1, HQ.out, H.out.2.2.2.2.2.2⟩
      · have e : k = l.length := by omega
        subst e
        have HF : Hid (appL L.els L.jts l way c0 p = q) := by
          have := H.out.2.2.2.2.2.1
          unfold allTo at this
          rw [List.take_length] at this
          show _ = _
          rw [HA.out, this]
        have y0 := H.out.2.2.1.2.1 0 _ rfl
        have z0 := H.out.2.2.1.2.2 0
        have x0 := H.out.2.2.1.1
        go_wp2
        obtain ⟨w4, hw4, HO4, HN4⟩ := set1 (.slice A' q.length cq) H.out.2.2.1 rfl
        rw [← hw4]
        refine door_ret (v := .slice A' q.length cq) (by have := HO4.2.1 0 _ rfl; simp [results, Tryd.results19, go_sem, this]) ⟨A', cq, by rw [HF.out], by rw [HF.out]; exact H.out.2.2.2.1.only HN4 H.out.2.2.2.2.2.2, by rw [HF.out]; exact H.out.2.2.2.2.1, eonly H.out.1 HN4 (by omega)⟩
  · have HA : Hid (appL L.els L.jts l way c0 p = p) := apL_no hap
    have key : (validB p = false) ∨ (validB p = true ∧ wayB L.els L.jts way = false) ∨ (validB p = true ∧ wayB L.els L.jts way = true ∧ decide (c0 < -1073741824) = true) ∨ (validB p = true ∧ wayB L.els L.jts way = true ∧ decide (c0 < -1073741824) = false ∧ decide (1073741824 < c0) = true) := by
      cases h1 : validB p
      · exact .inl rfl
      · cases h2 : wayB L.els L.jts way
        · exact .inr (.inl ⟨rfl, rfl⟩)
        · by_cases h3 : c0 < -1073741824
          · exact .inr (.inr (.inl ⟨rfl, rfl, decide_eq_true h3⟩))
          · refine .inr (.inr (.inr ⟨rfl, rfl, decide_eq_false h3, decide_eq_true ?_⟩))
            by_cases h4 : 1073741824 < c0
            · exact h4
            · exact absurd ⟨validB_true.1 h1, wayB_true.1 h2, by omega, by omega⟩ hap
    clear hap
    go_enter_defers Tryd.func19, Tryd.ntmps19
    go_upto_region 3 with (go_at_call 35; refine (clone_Seg B p cp _ HPL.out (HP.out.keep (eal (eal (Ext.refl _) _) _))).mono ?_; rintro e w1 ⟨v, rfl, ho, hb⟩; obtain ⟨A0, cap0, rfl, hr0, hm0, hg0⟩ := OwnL.rdn Sgc_len ho; have HB0 := Lib.hid hb; have HR0 := Lib.hid hr0; have HG0 : Hid (∀ a, A0 = some a → a.block ≠ w.heap.size + 1) := fun a ha => (by have := hg0 a ha; simp at this; omega); have HO1 : Own w1 (w.heap.size + 1) [.slice none 0 0] := (Own.new (by simp)).keep hb; have HL1 : Hid (LayAt w1 w.heap.size L) := CellsAt.keep (CellsAt.keep (CellsAt.new rfl) (eal (Ext.refl _) _)) hb; have y1 := HO1.2.1 0 _ rfl; have z1 := HO1.2.2 0; have HOW := Lib.hid HO1; clear ho hb HO1 hr0 hm0 hg0)
    obtain ⟨w2, hw2, HO2, HN2⟩ := set1 (.slice A0 p.length cap0) HOW.out rfl
    rw [← hw2]
    have E2 : Hid (Ext w w2) := eonly (etr (eal (eal (Ext.refl _) _) _) HB0.out) HN2 (by omega)
    have L2 : Hid (LayAt w2 w.heap.size L) := CellsAt.only HL1.out HN2 (by omega)
    have R2 : Hid (Rd w2 A0 4 Sgc p) := Rd.only HR0.out HN2 HG0.out
    have G2 := HG0
    have HO := Lib.hid HO2
    clear y1 z1 hw2 HN2 HOW HL1 HB0 HR0 HG0 HO2
    obtain ⟨l0, a0, a1, a2, a3, a4, a5⟩ := layAt_cells L2.out
    have y2 := HO.out.2.1 0 _ rfl
    have z2 := HO.out.2.2 0
    have x2 := HO.out.1
    have HV1 := valid_any B p cp w2 (by unfold maxLen; omega) (HP.out.keep E2.out)
    have HVH := Lib.hid HV1
    clear HV1
    have HV1 := HVH
    clear HVH
    rcases key with k1 | ⟨k1, k2⟩ | ⟨k1, k2, k3⟩ | ⟨k1, k2, k3, k4⟩
    · have K1 := Lib.hid k1
      have K2 : Hid True := trivial
      clear k1
      go_wp2_with (go_at_call 36; refine (to_after HV1.out).mono ?_; rw [K1.out]; rintro e w' ⟨ya, rfl, rfl⟩)
      obtain ⟨w4, hw4, HO4, HN4⟩ := set1 (.slice A0 p.length cap0) (HO.out.keep ya.is) rfl
      rw [← hw4]
      refine door_ret (v := .slice A0 p.length cap0) (by have := HO4.2.1 0 _ rfl; simp [results, Tryd.results19, go_sem, this]) ⟨A0, cap0, by rw [HA.out], by rw [HA.out]; exact (R2.out.keep ya.is).only HN4 G2.out, by rw [HA.out]; exact HPL.out, eonly (etr E2.out ya.is) HN4 (by omega)⟩
    · have K1 := Lib.hid k1
      have K2 := Lib.hid k2
      clear k1 k2
      go_wp2_with (first
      | (go_at_call 36; refine (to_after HV1.out).mono ?_; rw [K1.out]; rintro e w' ⟨ya, rfl, rfl⟩)
      | (go_at_call 37; refine (in_after _ (valid_way L A way c _ (HL.out.keep (etr E2.out (After.is _))) (HT.out.keep (etr E2.out (After.is _))) HM.out HC.out (HR.out.keep (etr E2.out (After.is _))))).mono ?_; rw [K2.out]; rintro e w' ⟨yb, rfl, rfl⟩))
      obtain ⟨w4, hw4, HO4, HN4⟩ := set1 (.slice A0 p.length cap0) (HO.out.keep yb.is) rfl
      rw [← hw4]
      refine door_ret (v := .slice A0 p.length cap0) (by have := HO4.2.1 0 _ rfl; simp [results, Tryd.results19, go_sem, this]) ⟨A0, cap0, by rw [HA.out], by rw [HA.out]; exact (R2.out.keep yb.is).only HN4 G2.out, by rw [HA.out]; exact HPL.out, eonly (etr E2.out yb.is) HN4 (by omega)⟩
    · have K1 := Lib.hid k1
      have K2 := Lib.hid k2
      clear k1 k2
      go_wp2_with (first
      | (go_at_call 36; refine (to_after HV1.out).mono ?_; rw [K1.out]; rintro e w' ⟨ya, rfl, rfl⟩)
      | (go_at_call 37; refine (in_after _ (valid_way L A way c _ (HL.out.keep (etr E2.out (After.is _))) (HT.out.keep (etr E2.out (After.is _))) HM.out HC.out (HR.out.keep (etr E2.out (After.is _))))).mono ?_; rw [K2.out]; rintro e w' ⟨yb, rfl, rfl⟩))
      obtain ⟨w4, hw4, HO4, HN4⟩ := set1 (.slice A0 p.length cap0) (HO.out.keep yb.is) rfl
      rw [← hw4]
      refine door_ret (v := .slice A0 p.length cap0) (by have := HO4.2.1 0 _ rfl; simp [results, Tryd.results19, go_sem, this]) ⟨A0, cap0, by rw [HA.out], by rw [HA.out]; exact (R2.out.keep yb.is).only HN4 G2.out, by rw [HA.out]; exact HPL.out, eonly (etr E2.out yb.is) HN4 (by omega)⟩
    · have K1 := Lib.hid k1
      have K2 := Lib.hid k2
      clear k1 k2
      go_wp2_with (first
      | (go_at_call 36; refine (to_after HV1.out).mono ?_; rw [K1.out]; rintro e w' ⟨ya, rfl, rfl⟩)
      | (go_at_call 37; refine (in_after _ (valid_way L A way c _ (HL.out.keep (etr E2.out (After.is _))) (HT.out.keep (etr E2.out (After.is _))) HM.out HC.out (HR.out.keep (etr E2.out (After.is _))))).mono ?_; rw [K2.out]; rintro e w' ⟨yb, rfl, rfl⟩))
      obtain ⟨w4, hw4, HO4, HN4⟩ := set1 (.slice A0 p.length cap0) (HO.out.keep yb.is) rfl
      rw [← hw4]
      refine door_ret (v := .slice A0 p.length cap0) (by have := HO4.2.1 0 _ rfl; simp [results, Tryd.results19, go_sem, this]) ⟨A0, cap0, by rw [HA.out], by rw [HA.out]; exact (R2.out.keep yb.is).only HN4 G2.out, by rw [HA.out]; exact HPL.out, eonly (etr E2.out yb.is) HN4 (by omega)⟩
end Go.Proofs.YtacnfchoemndeaaDoor
