/- Walk: the reference's linked balises of one step. Printed by gen_rf5b.py. -/
import Derived.Test.YticonpjkcocgeaaDoorWRf5A
import Derived.Test.YticonpjkcocgeaaDoorWReaC
set_option linter.unusedVariables false
set_option linter.unusedSimpArgs false
set_option maxRecDepth 100000
namespace Go.Proofs.YticonpjkcocgeaaDoor
open Go.ChangeShapes Go.WideShapes Go.ChangeAt Go.RowKit
open Sg

theorem szElm : (Tryd.prog.info? 79).map (·.size) = some 7 := by kernel_rfl
theorem szLkP : (Tryd.prog.info? 106).map (·.size) = some 2 := by kernel_rfl
theorem way_one {els : List Elm} {jts : List Jnt} {s : Stp} (h : StepOk els s) : Sg.Way els jts [s] := by
  refine ⟨by simp, by simp, fun i t hi ht => ?_⟩
  obtain rfl : i = 0 := by simp at hi; exact hi
  cases ht
  exact ⟨h, fun j t hj => absurd hj (by omega), fun t h0 => absurd h0 (by omega)⟩
theorem need_bd {kd i o : Int} (h : needB kd i o = true) : (0 ≤ i ∧ i ≤ 3) ∧ 0 ≤ o ∧ o ≤ 3 := by
  unfold needB needO at h
  split at h
  · omega
  · split at h
    · omega
    · split at h
      · omega
      · split at h
        · omega
        · simp at h
theorem rplc_bd {els : List Elm} {s : Stp} {b : Bls} (h1 : 500 ≤ lenOf els s ∧ lenOf els s ≤ 1000000) (h2 : 0 ≤ b.off ∧ b.off ≤ 1000000) : -1000000 ≤ rplc els s b ∧ rplc els s b ≤ 1000000 := by
  unfold rplc; split <;> omega
section
set_option maxHeartbeats 32000000
theorem rof_any (L : Lay) (bw ow : Nat) (s : Stp) (c : Nat) (at_ end_ : Int) (w : World) (hL : LayOk w L) (hE : ElsOk L.els) (hB : BalOk L.els L.bals) (hbm : L.bals.length ≤ 60) (hr : Rd w (some ⟨bw, ow, none⟩) 3 Stc [s]) (hs : StepOk L.els s) (ha : 0 ≤ at_ ∧ at_ ≤ 200000000) :
    Calls Tryd.prog 53 #[.agg #[.string L.name, .slice L.aS L.secs.length L.cS, .slice L.aE L.els.length L.cE, .slice L.aJ L.jts.length L.cJ, .slice L.aG L.sgs.length L.cG, .slice L.aB L.bals.length L.cB], .slice (some ⟨bw, ow, none⟩) 1 c, .int .i64 at_, .int .i64 end_] w (LksRet w (sortP (ofL L.els s at_ end_ L.bals))) := by
  have HL := Lib.hid hL
  have HE := Lib.hid hE
  have HB := Lib.hid hB
  have HR := Lib.hid hr
  have HV : Hid (∀ w' : World, Ext w w' → Calls Tryd.prog 67 #[.agg #[.string L.name, .slice L.aS L.secs.length L.cS, .slice L.aE L.els.length L.cE, .slice L.aJ L.jts.length L.cJ, .slice L.aG L.sgs.length L.cG, .slice L.aB L.bals.length L.cB], .slice (some ⟨bw, ow, none⟩) 1 c] w' fun e w2 => e = .returned (.bool true) ∧ Below w'.heap.size w' w2) := fun w' h1 => by
    have := rvalid_way L (some ⟨bw, ow, none⟩) [s] c w' (HL.out.keep h1) (by unfold maxLen; simp) (HR.out.keep h1)
    rw [wayB_true.2 (way_one hs)] at this
    exact this
  obtain ⟨kE, x, hel, hx, hxe⟩ := has_at hs.1
  have hxb := hE kE x hx
  have hbd := need_bd hs.2
  have hld := len_bd hE hs.1
  have hkE := (List.getElem?_eq_some_iff.1 hx).1
  have hmE := HL.out.lE
  unfold maxLen at hmE
  obtain ⟨bE, oE, x', hAE, hx', hbE, e0, e1, e2, e3, e4, e5, e6⟩ := rd_el hL.hE (Ext.refl w) hkE
  rw [hx] at hx'
  cases hx'
  have hlx : lenOf L.els s = x.len := by unfold lenOf; rw [hxe]
  have hkx : x.kind = (elAt L.els s.el).kind := by rw [hxe]
  obtain ⟨pb, hpb⟩ : ∃ pb, pb = rpasB L.els s := ⟨_, rfl⟩
  have HPB := Lib.hid hpb
  have HPAS : Hid (∀ w' : World, Calls Tryd.prog 80 #[.int .i64 x.kind, .agg #[.int .i64 s.el, .int .i64 s.in_, .int .i64 s.out_]] w' fun e w2 => e = .returned (.bool pb) ∧ Below w'.heap.size w' w2) := fun w' => by
    have := rpasses_any L.els s w' hbd.1 hbd.2 x.kind hkx
    rw [← hpb] at this; exact this
  have HPLC : Hid (∀ (k : Nat) (b : Bls), L.bals[k]? = some b → ∀ w' : World, Calls Tryd.prog 79 #[.agg #[.string x.name, .int .i64 x.kind, .int .i64 x.len, .int .i64 x.grade, .int .i64 x.speed, .int .i64 x.slow, .int .i64 x.sec], .agg #[.int .i64 s.el, .int .i64 s.in_, .int .i64 s.out_], .agg #[.int .i64 b.id, .int .i64 b.el, .int .i64 b.off]] w' fun e w2 => e = .returned (.int .i64 (rplc L.els s b)) ∧ Below w'.heap.size w' w2) := fun k b hb w' => rplace_any L.els s x b w' hlx (by omega) (bal_bd hE hB hb)
  have HPD : Hid (∀ (k : Nat) (b : Bls), L.bals[k]? = some b → -1000000 ≤ rplc L.els s b ∧ rplc L.els s b ≤ 1000000) := fun k b hb => rplc_bd hld (bal_bd hE hB hb)
  obtain ⟨h0, h1⟩ := hr (by simp)
  have HST : Hid (bw < w.heap.size ∧ w.cell? ⟨bw, ow, none⟩ = some (.int .i64 s.el) ∧ w.cell? ⟨bw, ow + 1, none⟩ = some (.int .i64 s.in_) ∧ w.cell? ⟨bw, ow + 1 + 1, none⟩ = some (.int .i64 s.out_)) := by
    obtain ⟨g0, g1, g2, g3⟩ := rd_st_at hr (Ext.refl w) (k := 0) (s := s) rfl
    simp only [Nat.zero_mul, Nat.add_zero] at g1 g2 g3
    exact ⟨g0, g1, g2, g3⟩
  have HAE := Lib.hid hAE
  have HEL : Hid (bE < w.heap.size ∧ w.cell? ⟨bE, oE + kE * 7, none⟩ = some (.string x.name) ∧ w.cell? ⟨bE, oE + kE * 7 + 1, none⟩ = some (.int .i64 x.kind) ∧ w.cell? ⟨bE, oE + kE * 7 + 1 + 1, none⟩ = some (.int .i64 x.len) ∧ w.cell? ⟨bE, oE + kE * 7 + 1 + 1 + 1, none⟩ = some (.int .i64 x.grade) ∧ w.cell? ⟨bE, oE + kE * 7 + 1 + 1 + 1 + 1, none⟩ = some (.int .i64 x.speed) ∧ w.cell? ⟨bE, oE + kE * 7 + 1 + 1 + 1 + 1 + 1, none⟩ = some (.int .i64 x.slow) ∧ w.cell? ⟨bE, oE + kE * 7 + 1 + 1 + 1 + 1 + 1 + 1, none⟩ = some (.int .i64 x.sec)) := ⟨hbE, e0, e1, e2, e3, e4, e5, e6⟩
  have w1 : IntKind.i64.wrap (at_ + x.len) = at_ + x.len := IntWalk.i64_in _ (by omega)
  obtain ⟨w0, hw0⟩ : ∃ w0, w0 = w.alloc (.cells #[.string L.name, .slice L.aS L.secs.length L.cS, .slice L.aE L.els.length L.cE, .slice L.aJ L.jts.length L.cJ, .slice L.aG L.sgs.length L.cG, .slice L.aB L.bals.length L.cB] 28) := ⟨_, rfl⟩
  have E0 : Hid (Ext w w0) := by rw [hw0]; exact eal (Ext.refl _) _
  have L0 : Hid (LayAt w0 w.heap.size L) := by rw [hw0]; exact CellsAt.new rfl
  obtain ⟨el, in_, out_⟩ := s
  obtain rfl : el = (kE : Int) := hel
  simp only [] at HST HPAS HPLC HPD
  clear hL hE hB hr hs hx hxe hbE e0 e1 e2 e3 e4 e5 e6 hlx hkx hpb hbd hld h0 h1 hAE
  go_enter Tryd.func53, Tryd.ntmps53
  go_upto_region 1 with (fail)
  rw [← hw0]
  clear hw0
  obtain ⟨l0, a0, a1, a2, a3, a4, a5⟩ := layAt_cells L0.out
  go_wp2_with (go_at_call 67; refine (HV.out _ E0.out).mono ?_; rintro e w2 ⟨rfl, hb⟩; clear a0 a1 a2 a3 a4 a5 l0; have E2 := Lib.hid (etr E0.out hb); have L2 : Hid (LayAt w2 w.heap.size L) := L0.out.keep hb; clear hb)
  go_loopg [9, 10, 11] 1 (fun g x9 x10 ix wr => Hid (Ext w2 wr) ∧ ((ix = .int .i64 0 ∧ g = 1 ∧ x9 = .slice none 0 0 ∧ x10 = .int .i64 at_) ∨ (ix = .int .i64 1 ∧ g = 0 ∧ ∃ (A : Option Addr) (ys : List Pas) (c9 : Nat) (a10 : Int), x9 = .slice A ys.length c9 ∧ x10 = .int .i64 a10 ∧ Hid (Rd wr A 2 Qc ys) ∧ Hid (ys = sortP (ofL L.els ⟨(kE : Int), in_, out_⟩ at_ end_ L.bals)))))
  case atStart => exact ⟨Ext.refl _, .inl ⟨rfl, rfl, rfl, rfl⟩⟩
  case round =>
    obtain ⟨wi, rfl⟩ : ∃ wi : World, wi = wr := ⟨_, rfl⟩
    obtain ⟨X, ⟨rfl, rfl, rfl, rfl⟩ | ⟨rfl, rfl, A, ys, c9, a10, rfl, rfl, HRY, HY⟩⟩ := hrel
    · have EI := Lib.hid (etr E2.out X.out)
      have L3 : Hid (LayAt wi w.heap.size L) := L2.out.keep X.out
      obtain ⟨l0, a0, a1, a2, a3, a4, a5⟩ := layAt_cells L3.out
      have s0 := lt_keep HST.out.1 EI.out
      have s1 := cell_keep HST.out.1 EI.out HST.out.2.1
      have e0 := lt_keep HEL.out.1 EI.out
      have e1 := cell_keep HEL.out.1 EI.out HEL.out.2.1
      have e2 := cell_keep HEL.out.1 EI.out HEL.out.2.2.1
      have e3 := cell_keep HEL.out.1 EI.out HEL.out.2.2.2.1
      have e4 := cell_keep HEL.out.1 EI.out HEL.out.2.2.2.2.1
      have e5 := cell_keep HEL.out.1 EI.out HEL.out.2.2.2.2.2.1
      have e6 := cell_keep HEL.out.1 EI.out HEL.out.2.2.2.2.2.2.1
      have e7 := cell_keep HEL.out.1 EI.out HEL.out.2.2.2.2.2.2.2
      have i1 : (0 : Int) ≤ (kE : Int) := by omega
      have i2 : (kE : Int) < (L.els.length : Int) := by omega
      rw [HAE.out] at a2
      go_upto_region 8 with (fail)
      refine wp_region_monoB [0, 1, 2, 3, 4, 5, 6, 7, 8] 2 (by kernel_rfl) (by kernel_rfl) (fun _ _ d _ _ h => by cases d <;> exact h) (by kernel_rfl) (by kernel_rfl) ?_
      repeat (refine wpE_step rfl (fun K hK => ?_); go_simp; (refine hK _ ?_; clear hK K))
      refine wpE_nil ?_
      intro xx
      refine wpAnyB_ready (rs := [9]) (by kernel_rfl) (by simp) (AllB.cons rfl (fun K hK => ?_) AllB.nil)
      go_simp
      refine hK _ _ (ext_below (eal (Ext.refl _) _) (esz xx.is)) (fun z => ?_)
      clear hK K
      have Oz := Lib.hid ((Own.new (w := xx.val) (cs := #[.string ⟨#[]⟩, .int .i64 0, .int .i64 0, .int .i64 0, .int .i64 0, .int .i64 0, .int .i64 0]) (t := 79) rfl).keep z.is)
      have sx := xx.is.size
      refine wpAnyB_ready (rs := [10]) (by kernel_rfl) (by simp) (AllB.cons rfl (fun K hK => ?_) AllB.nil)
      rw [if_pos (by rfl)]
      refine wpo_stN 79 [.string x.name, .int .i64 x.kind, .int .i64 x.len, .int .i64 x.grade, .int .i64 x.speed, .int .i64 x.slow, .int .i64 x.sec] [.string x.name, .int .i64 x.kind, .int .i64 x.len, .int .i64 x.grade, .int .i64 x.speed, .int .i64 x.slow, .int .i64 x.sec] rfl rfl Oz.out rfl szElm rfl (by show (0 + 7 : Nat) ≤ 7; decide) rfl ?_; intro w4 H4
      refine hK _ _ (Below.only (Below.refl _ _) H4.out.2 sx) (fun z4 => ?_)
      clear hK K
      refine wpAnyB_done (by kernel_rfl) ?_ _
      go_simp
      try dsimp only [Act.put]
      obtain ⟨b12, hbn⟩ : ∃ q, q = xx.val.heap.size := ⟨_, rfl⟩
      rw [← hbn] at H4 ⊢
      obtain ⟨w5, hwn⟩ : ∃ q, q = z4.val := ⟨_, rfl⟩
      have E5 : Hid (Ext wi w5) := hwn ▸ etr (eonly (etr (eal xx.is _) z.is) H4.out.2 (by have := xx.is.size; omega)) z4.is
      have C5 : Hid (CellsAt w5 b12 [.string x.name, .int .i64 x.kind, .int .i64 x.len, .int .i64 x.grade, .int .i64 x.speed, .int .i64 x.slow, .int .i64 x.sec]) := hwn ▸ (H4.out.1.keep z4.is).cells
      have b12s : wi.heap.size ≤ b12 := by have := xx.is.size; omega
      rw [← hwn]
      clear hbn hwn Oz sx H4 z4 z
      clear l0 a0 a1 a2 a3 a4 a5 s0 s1 e0 e1 e2 e3 e4 e5 e6 e7 i1 i2
      go_wp2
      go_loopg [9, 13] L.bals.length (fun g x9 ix wj => ∃ (j : Nat) (A : Option Addr) (ys : List Pas) (c9 : Nat), ix = .int .i64 j ∧ x9 = .slice A ys.length c9 ∧ j ≤ L.bals.length ∧ g = L.bals.length - j ∧ Hid (Ext w5 wj) ∧ Hid (Rd wj A 2 Qc ys) ∧ Hid (ys = sortP (ofL L.els ⟨(kE : Int), in_, out_⟩ at_ end_ (L.bals.take j))))
      case atStart => exact ⟨0, none, [], 0, rfl, rfl, by omega, by omega, Ext.refl _, Rd.nil, rfl⟩
      case round =>
        obtain ⟨wj, rfl⟩ : ∃ wj : World, wj = wr := ⟨_, rfl⟩
        obtain ⟨j, A, ys, c9, rfl, rfl, hj, hg, XJ, HRY, HY⟩ := hrel
        have HG2 := Lib.hid hg
        clear hg
        have EJ := Lib.hid (etr EI.out (etr E5.out XJ.out))
        obtain ⟨l0, a0, a1, a2, a3, a4, a5⟩ := layAt_cells (L3.out.keep (etr E5.out XJ.out))
        have C6 : Hid (CellsAt wj b12 [.string x.name, .int .i64 x.kind, .int .i64 x.len, .int .i64 x.grade, .int .i64 x.speed, .int .i64 x.slow, .int .i64 x.sec]) := C5.out.keep XJ.out
        by_cases hlj : j < L.bals.length
        · have q2 : decide ((j : Int) < (L.bals.length : Int)) = true := decide_eq_true (by omega)
          have q6 : j + 1 ≤ L.bals.length := by omega
          obtain ⟨bB, oB, b, hAB, hb, hbb, d0, d1, d2⟩ := rd_ba HL.out.hB EJ.out hlj
          have HAB := Lib.hid hAB
          have hpd := HPD.out j b hb
          obtain ⟨pl, hpl⟩ : ∃ pl, pl = rplc L.els ⟨(kE : Int), in_, out_⟩ b := ⟨_, rfl⟩
          have HPL := Lib.hid hpl
          have HPC : Hid (∀ w' : World, Calls Tryd.prog 79 #[.agg #[.string x.name, .int .i64 x.kind, .int .i64 x.len, .int .i64 x.grade, .int .i64 x.speed, .int .i64 x.slow, .int .i64 x.sec], .agg #[.int .i64 (kE : Int), .int .i64 in_, .int .i64 out_], .agg #[.int .i64 b.id, .int .i64 b.el, .int .i64 b.off]] w' fun e w2 => e = .returned (.int .i64 pl) ∧ Below w'.heap.size w' w2) := fun w' => by
            have := HPLC.out j b hb w'
            rw [← hpl] at this; exact this
          rw [← hpl] at hpd
          have n1 : IntKind.i64.wrap (at_ + pl) = at_ + pl := IntWalk.i64_in _ (by omega)
          have HSQ := Lib.hid (ofL_step (els := L.els) (s := ⟨(kE : Int), in_, out_⟩) (at_ := at_) (end_ := end_) hb)
          have hyl : ys.length ≤ 60 := by
            have h1 := congrArg List.length HY.out
            rw [sortP_len] at h1
            have h2 := ofL_len L.els ⟨(kE : Int), in_, out_⟩ at_ end_ (L.bals.take j)
            have h3 : (L.bals.take j).length ≤ L.bals.length := List.length_take_le' _ _
            omega
          obtain ⟨v13, hv13⟩ : ∃ v, v = wj.alloc (.cells #[.int .i64 b.id, .int .i64 b.el, .int .i64 b.off] 86) := ⟨_, rfl⟩
          have EV : Hid (Ext wj v13) := by rw [hv13]; exact eal (Ext.refl _) _
          have CV : Hid (CellsAt v13 wj.heap.size [.int .i64 b.id, .int .i64 b.el, .int .i64 b.off]) := by rw [hv13]; exact CellsAt.new rfl
          rw [hAB] at a5 ⊢
          clear hAB hb hpl
          go_upto_region 13 with (fail)
          rw [← hv13]
          clear hv13 l0 a0 a1 a2 a3 a4 a5 d0 d1 d2 hbb
          have EW := Lib.hid (etr EJ.out EV.out)
          have C7 : Hid (CellsAt v13 b12 [.string x.name, .int .i64 x.kind, .int .i64 x.len, .int .i64 x.grade, .int .i64 x.speed, .int .i64 x.slow, .int .i64 x.sec]) := C6.out.keep EV.out
          have s0 := lt_keep HST.out.1 EW.out
          have s1 := cell_keep HST.out.1 EW.out HST.out.2.1
          have s2 := cell_keep HST.out.1 EW.out HST.out.2.2.1
          have s3 := cell_keep HST.out.1 EW.out HST.out.2.2.2
          have v0 := CV.out.1
          have v1 := CV.out.2 0 _ rfl
          have v2 := CV.out.2 1 _ rfl
          have v3 := CV.out.2 2 _ rfl
          have g0 := C7.out.1
          have g1 := C7.out.2 0 _ rfl
          have g2 := C7.out.2 1 _ rfl
          have g3 := C7.out.2 2 _ rfl
          have g4 := C7.out.2 3 _ rfl
          have g5 := C7.out.2 4 _ rfl
          have g6 := C7.out.2 5 _ rfl
          have g7 := C7.out.2 6 _ rfl
          refine wp_region_monoB [0, 1, 2, 3, 4, 5, 6, 7, 8, 9, 10, 11] 2 (by kernel_rfl) (by kernel_rfl) (fun _ _ d _ _ h => by cases d <;> exact h) (by kernel_rfl) (by kernel_rfl) ?_
          repeat (refine wpE_step rfl (fun K hK => ?_); go_simp; (first
            | (refine hK _ ?_; clear hK K)
            | (apply Exists.intro
               refine ⟨fun x => ?_, hK _ ?_⟩
               (go_at_call 79; exact HPC.out _)
               clear hK K)))
          refine wpE_nil ?_
          intro xx
          refine wpAnyB_ready (rs := [12]) (by kernel_rfl) (by simp) (AllB.cons rfl (fun K hK => ?_) AllB.nil)
          go_simp
          refine hK _ _ (ext_below (eal (Ext.refl _) _) (esz xx.is)) (fun z => ?_)
          clear hK K
          have Oz := Lib.hid ((Own.new (w := xx.val) (cs := #[.int .i64 0, .int .i64 0]) (t := 106) rfl).keep z.is)
          have sx := xx.is.size
          refine wpAnyB_ready (rs := [13]) (by kernel_rfl) (by simp) (AllB.cons rfl (fun K hK => ?_) AllB.nil)
          rw [if_pos (by rfl)]
          refine wpo_stN 106 [.int .i64 b.id, .int .i64 (at_ + pl)] [.int .i64 b.id, .int .i64 (at_ + pl)] rfl rfl Oz.out rfl szLkP rfl (by show (0 + 2 : Nat) ≤ 2; decide) rfl ?_; intro w4 H4
          refine hK _ _ (Below.only (Below.refl _ _) H4.out.2 sx) (fun z4 => ?_)
          clear hK K
          refine wpAnyB_done (by kernel_rfl) ?_ _
          go_simp
          try dsimp only [Act.put]
          obtain ⟨b15, hbn⟩ : ∃ q, q = xx.val.heap.size := ⟨_, rfl⟩
          rw [← hbn] at H4 ⊢
          obtain ⟨w7, hwn⟩ : ∃ q, q = z4.val := ⟨_, rfl⟩
          have E7 : Hid (Ext v13 w7) := hwn ▸ etr (eonly (etr (eal xx.is _) z.is) H4.out.2 (by have := xx.is.size; omega)) z4.is
          have C15 : Hid (CellsAt w7 b15 [.int .i64 b.id, .int .i64 (at_ + pl)]) := hwn ▸ (H4.out.1.keep z4.is).cells
          have b15s : v13.heap.size ≤ b15 := by have := xx.is.size; omega
          rw [← hwn]
          clear hbn hwn Oz sx H4 z4 z
          clear s0 s1 s2 s3 v0 v1 v2 v3 g0 g1 g2 g3 g4 g5 g6 g7
          have EX := Lib.hid (etr EW.out E7.out)
          have C8 : Hid (CellsAt w7 b12 [.string x.name, .int .i64 x.kind, .int .i64 x.len, .int .i64 x.grade, .int .i64 x.speed, .int .i64 x.slow, .int .i64 x.sec]) := C7.out.keep E7.out
          have CW : Hid (CellsAt w7 wj.heap.size [.int .i64 b.id, .int .i64 b.el, .int .i64 b.off]) := CV.out.keep E7.out
          have s0 := lt_keep HST.out.1 EX.out
          have s1 := cell_keep HST.out.1 EX.out HST.out.2.1
          have s2 := cell_keep HST.out.1 EX.out HST.out.2.2.1
          have s3 := cell_keep HST.out.1 EX.out HST.out.2.2.2
          have v0 := CW.out.1
          have v2 := CW.out.2 1 _ rfl
          have g0 := C8.out.1
          have g2 := C8.out.2 1 _ rfl
          have k0 := C15.out.1
          have k1 := C15.out.2 0 _ rfl
          have k2 := C15.out.2 1 _ rfl
          have EJ7 := Lib.hid (etr EV.out E7.out)
          have key : (((b.el == (kE : Int)) = false ∨ ((b.el == (kE : Int)) = true ∧ pb = false) ∨ ((b.el == (kE : Int)) = true ∧ pb = true ∧ decide (at_ + pl ≤ end_) = false)) ∧ Hid (ofB L.els ⟨(kE : Int), in_, out_⟩ at_ end_ b = false)) ∨ (((b.el == (kE : Int)) = true ∧ pb = true ∧ decide (at_ + pl ≤ end_) = true) ∧ Hid (ofB L.els ⟨(kE : Int), in_, out_⟩ at_ end_ b = true)) := by
            have hq : ofB L.els ⟨(kE : Int), in_, out_⟩ at_ end_ b = ((b.el == (kE : Int)) && pb && decide (at_ + pl ≤ end_)) := by unfold ofB; rw [← HPB.out, ← HPL.out]
            cases h1 : (b.el == (kE : Int))
            · exact .inl ⟨.inl rfl, by show _ = _; rw [hq, h1]; rfl⟩
            · cases h2 : pb
              · exact .inl ⟨.inr (.inl ⟨rfl, rfl⟩), by show _ = _; rw [hq, h1, h2]; rfl⟩
              · cases h3 : decide (at_ + pl ≤ end_)
                · exact .inl ⟨.inr (.inr ⟨rfl, rfl, rfl⟩), by show _ = _; rw [hq, h1, h2, h3]; rfl⟩
                · exact .inr ⟨⟨rfl, rfl, rfl⟩, by show _ = _; rw [hq, h1, h2, h3]; rfl⟩
          rcases key with ⟨key, HP⟩ | ⟨⟨r1, r2, r3⟩, HP⟩
          · have HN : Hid (ys = sortP (ofL L.els ⟨(kE : Int), in_, out_⟩ at_ end_ (L.bals.take (j + 1)))) := by
              show _ = _
              rw [HSQ.out, HP.out, if_neg (by simp)]
              exact HY.out
            clear HSQ
            rcases key with r1 | ⟨r1, r2⟩ | ⟨r1, r2, r3⟩
            all_goals
              (try subst r2)
              go_upto_region 14 with (fail)
              refine wp_region_after (by kernel_rfl) (by kernel_rfl) ?_
              repeat (first | go_big_quiet_step ((go_at_call 80; exact after_call _ (HPAS.out _))))
              refine wpQuiet_nil ?_
              rintro _ ⟨y5, rfl⟩
              clear s0 s1 s2 s3 v0 v2 g0 g2 k0 k1 k2
              go_wp2
              rw [← HAB.out]
              go_roundg (L.bals.length - (j + 1))
              case measure => have := HG2.out; omega
              case rel => exact ⟨j + 1, A, ys, c9, by go_num, rfl, by omega, rfl, etr XJ.out (etr EJ7.out y5.is), HRY.out.keep (etr EJ7.out y5.is), HN.out⟩
          · have HN : Hid (insP ⟨at_ + pl, b.id⟩ ys = sortP (ofL L.els ⟨(kE : Int), in_, out_⟩ at_ end_ (L.bals.take (j + 1)))) := by
              show _ = _
              rw [HSQ.out, HP.out, if_pos rfl, sortP_snoc, ← HPL.out, ← HY.out]
            clear HSQ
            subst r2
            have HPU : Hid (∀ w' : World, Ext w7 w' → Calls Tryd.prog 81 #[.slice A ys.length c9, .agg #[.int .i64 b.id, .int .i64 (at_ + pl)]] w' (LksRet w' (insP ⟨at_ + pl, b.id⟩ ys))) := fun w' h => r32put_any A ys c9 ⟨at_ + pl, b.id⟩ w' (HRY.out.keep (etr EJ7.out h)) (by omega)
            go_upto_region 14 with (fail)
            refine wp_region_after (by kernel_rfl) (by kernel_rfl) ?_
            repeat (first | go_big_quiet_step ((go_at_call 80; exact after_call _ (HPAS.out _))))
            refine wpQuiet_nil ?_
            rintro _ ⟨y5, rfl⟩
            clear s0 s1 s2 s3 v0 v2 g0 g2 k0 k1 k2
            have k1' : y5.val.cell? ⟨b15, 0, none⟩ = some (.int .i64 b.id) := cell_keep C15.out.1 y5.is (C15.out.2 0 _ rfl)
            have k2' : y5.val.cell? ⟨b15, 1, none⟩ = some (.int .i64 (at_ + pl)) := cell_keep C15.out.1 y5.is (C15.out.2 1 _ rfl)
            have k0' := lt_keep C15.out.1 y5.is
            go_wp2_with (go_at_call 81; refine (HPU.out _ y5.is).mono ?_; rintro e w9 ⟨A9, c10, rfl, hr9, hb9⟩; have HR9 := Lib.hid hr9; have HB9 := Lib.hid hb9; clear hr9 hb9)
            rw [← HAB.out]
            go_roundg (L.bals.length - (j + 1))
            case measure => have := HG2.out; omega
            case rel => exact ⟨j + 1, A9, _, c10, by go_num, rfl, by omega, rfl, etr XJ.out (etr EJ7.out (etr y5.is HB9.out)), HR9.out, HN.out⟩
        · have q2 : decide ((j : Int) < (L.bals.length : Int)) = false := decide_eq_false (by omega)
          have HT : Hid (ys = sortP (ofL L.els ⟨(kE : Int), in_, out_⟩ at_ end_ L.bals)) := by
            show _ = _
            have := HY.out
            rw [List.take_of_length_le (by omega)] at this
            exact this
          have g0 := C6.out.1
          have g3 := C6.out.2 2 _ rfl
          go_wp2
          go_roundg 0
          case measure => decide
          case rel => exact ⟨etr X.out (etr E5.out XJ.out), .inr ⟨rfl, rfl, A, ys, c9, _, rfl, rfl, HRY.out, HT.out⟩⟩
    · have HRT : Hid (Ending.returned (.slice A ys.length c9) = .returned (.slice A (sortP (ofL L.els ⟨(kE : Int), in_, out_⟩ at_ end_ L.bals)).length c9)) := by show _ = _; rw [HY.out]
      have HR7 : Hid (Rd wi A 2 Qc (sortP (ofL L.els ⟨(kE : Int), in_, out_⟩ at_ end_ L.bals))) := by rw [← HY.out]; exact HRY.out
      clear HY
      go_wp2
      go_ret
      exact ⟨A, c9, HRT.out, HR7.out, etr E2.out X.out⟩
end
end Go.Proofs.YticonpjkcocgeaaDoor
