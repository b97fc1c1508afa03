/- Walks: motion.Reads. -/
import Derived.Test.YticonpjkcocgeaaDoorWReaB
set_option linter.unusedVariables false
set_option linter.unusedSimpArgs false
set_option maxRecDepth 100000
namespace Go.Proofs.YticonpjkcocgeaaDoor
open Go.ChangeShapes Go.WideShapes Go.ChangeAt Go.RowKit
open Sg

theorem bal_bd {els : List Elm} {bals : List Bls} (hE : ElsOk els) (hB : BalOk els bals) {k : Nat} {b : Bls} (h : bals[k]? = some b) : 0 ≤ b.off ∧ b.off ≤ 1000000 := by
  have := hB k b h
  obtain ⟨j, x, _, hx, e⟩ := has_at this.2.2.1
  have h2 := hE j x hx
  rw [e] at this
  omega
theorem placeV_bd {els : List Elm} {bals : List Bls} (hE : ElsOk els) (hB : BalOk els bals) {k : Nat} {b : Bls} (h : bals[k]? = some b) {s : Stp} (hs : hasEl els s.el) : 0 ≤ placeV els s b ∧ placeV els s b ≤ 1000000 := by
  have h1 := bal_bd hE hB h
  have h2 := len_bd hE hs
  unfold placeV
  split
  · rename_i hp
    split
    · exact h1
    · have h3 := hB k b h
      have : s.el = b.el := by unfold placeB at hp; simp at hp; exact hp.1
      rw [← this] at h3
      have e : lenOf els s = (elAt els s.el).len := rfl
      omega
  · omega
def ReadsRet (w : World) (R : List Rea) (e : Ending) (w' : World) : Prop := ∃ A c, e = .returned (.slice A R.length c) ∧ Rd w' A 2 Rec R ∧ Below w.heap.size w w'
theorem ReadsRet.nil {w w' : World} (h : Ext w w') {R : List Rea} (hR : R = []) : ReadsRet w R (.returned (.slice none 0 0)) w' := by subst hR; exact ⟨none, 0, rfl, Rd.nil, h⟩
section
set_option maxHeartbeats 32000000
theorem reads_any (N : Nat) (HS : SortOk N) (L : Lay) (A1 : Option Addr) (l1 : List Stp) (c1 : Nat) (head1 len1 : Int) (A2 : Option Addr) (l2 : List Stp) (c2 : Nat) (head2 len2 : Int) (w : World) (hL : LayOk w L) (hT : Tabs w) (hE : ElsOk L.els) (hB : BalOk L.els L.bals) (hbm : L.bals.length ≤ 60)
    (hr1 : Rd w A1 3 Stc l1) (hm1 : l1.length ≤ 200) (hc1 : l1.length ≤ c1) (hr2 : Rd w A2 3 Stc l2) (hm2 : l2.length ≤ 200) (hc2 : l2.length ≤ c2) (hN : (passA L.els L.bals l1 head1 l2).length ≤ N) :
    Calls Tryd.prog 11 #[.agg #[.string L.name, .slice L.aS L.secs.length L.cS, .slice L.aE L.els.length L.cE, .slice L.aJ L.jts.length L.cJ, .slice L.aG L.sgs.length L.cG, .slice L.aB L.bals.length L.cB], .agg #[.slice A1 l1.length c1, .int .i64 head1, .int .i64 len1], .agg #[.slice A2 l2.length c2, .int .i64 head2, .int .i64 len2]] w (ReadsRet w (readsV L.els L.jts L.bals l1 head1 len1 l2 head2 len2)) := by
  obtain ⟨i0, hi, hz0, hz1, hz2⟩ := info_parts inf_Pas
  have HII := Lib.hid hi
  clear hi
  have HSO := Lib.hid HS
  have HL := Lib.hid hL
  have HE := Lib.hid hE
  have HB := Lib.hid hB
  have HR1 := Lib.hid hr1
  have HR2 := Lib.hid hr2
  have HNN := Lib.hid hN
  obtain ⟨k1, hk1⟩ : ∃ k, k = chkM L.els L.jts l1 head1 len1 := ⟨_, rfl⟩
  obtain ⟨k2, hk2⟩ : ∃ k, k = chkM L.els L.jts l2 head2 len2 := ⟨_, rfl⟩
  have HK1 := Lib.hid hk1
  have HK2 := Lib.hid hk2
  have HC1 : Hid (∀ w' : World, Ext w w' → Calls Tryd.prog 24 #[.agg #[.string L.name, .slice L.aS L.secs.length L.cS, .slice L.aE L.els.length L.cE, .slice L.aJ L.jts.length L.cJ, .slice L.aG L.sgs.length L.cG, .slice L.aB L.bals.length L.cB], .agg #[.slice A1 l1.length c1, .int .i64 head1, .int .i64 len1]] w' fun e w2 => e = .returned (.int .i64 k1) ∧ Below w'.heap.size w' w2) := fun w' h1 => by
    have := bchk_any L A1 l1 c1 head1 len1 w' (HL.out.keep h1) (hT.keep h1) HE.out (HR1.out.keep h1) hm1 hc1
    rw [← HK1.out] at this; exact this
  have HC2 : Hid (∀ w' : World, Ext w w' → Calls Tryd.prog 24 #[.agg #[.string L.name, .slice L.aS L.secs.length L.cS, .slice L.aE L.els.length L.cE, .slice L.aJ L.jts.length L.cJ, .slice L.aG L.sgs.length L.cG, .slice L.aB L.bals.length L.cB], .agg #[.slice A2 l2.length c2, .int .i64 head2, .int .i64 len2]] w' fun e w2 => e = .returned (.int .i64 k2) ∧ Below w'.heap.size w' w2) := fun w' h1 => by
    have := bchk_any L A2 l2 c2 head2 len2 w' (HL.out.keep h1) (hT.keep h1) HE.out (HR2.out.keep h1) hm2 hc2
    rw [← HK2.out] at this; exact this
  have E0 : Hid (Ext w (((w.alloc (.cells #[.string L.name, .slice L.aS L.secs.length L.cS, .slice L.aE L.els.length L.cE, .slice L.aJ L.jts.length L.cJ, .slice L.aG L.sgs.length L.cG, .slice L.aB L.bals.length L.cB] 28)).alloc (.cells #[.slice A1 l1.length c1, .int .i64 head1, .int .i64 len1] 32)).alloc (.cells #[.slice A2 l2.length c2, .int .i64 head2, .int .i64 len2] 32))) := eal (eal (eal (Ext.refl _) _) _) _
  clear hL hT hE hB hr1 hr2 hN HS
  by_cases q1 : k1 = 0
  case neg =>
    have HV : Hid (readsV L.els L.jts L.bals l1 head1 len1 l2 head2 len2 = []) := by show _ = _; unfold readsV; rw [if_neg (fun h => q1 (hk1.trans h.1))]
    have p1 : (k1 != 0) = true := by simpa using q1
    clear q1 hk1 hk2
    go_enter Tryd.func11, Tryd.ntmps11
    go_wp2_with (go_at_call 24; refine (to_after (HC1.out _ E0.out)).mono ?_; clear HC1; rintro e w' ⟨y, rfl, rfl⟩)
    go_ret
    exact ReadsRet.nil (etr E0.out y.is) HV.out
  by_cases q2 : k2 = 0
  case neg =>
    have HV : Hid (readsV L.els L.jts L.bals l1 head1 len1 l2 head2 len2 = []) := by show _ = _; unfold readsV; rw [if_neg (fun h => q2 (hk2.trans h.2))]
    have p1 : (k1 != 0) = false := by simpa using q1
    have p2 : (k2 != 0) = true := by simpa using q2
    clear q1 q2 hk1 hk2
    go_enter Tryd.func11, Tryd.ntmps11
    go_wp2_with (first | (go_at_call 24; refine (to_after (HC1.out _ E0.out)).mono ?_; clear HC1; rintro e w' ⟨y, rfl, rfl⟩; have y1 : w.heap.size + 2 < y.val.heap.size := (by have h := y.is.size; simp at h; omega)) | (go_at_call 24; refine (in_after _ (HC2.out _ (etr E0.out (After.is _)))).mono ?_; rintro e w' ⟨y, rfl, rfl⟩))
    go_ret
    exact ReadsRet.nil (etr E0.out (After.is _)) HV.out
  subst q1 q2
  replace hk1 := hk1.symm
  replace hk2 := hk2.symm
  have h01 : 0 < l1.length := (chkM_zero.1 hk1).1.1.1
  have h02 : 0 < l2.length := (chkM_zero.1 hk2).1.1.1
  have HIN : Hid (WayIn L.els l2) := way_in (chkM_zero.1 hk2).1.1
  have hh2 := (chkM_zero.1 hk2).1.2.2.2
  have HBH : Hid (1 ≤ head2 ∧ head2 ≤ 1000000) := ⟨hh2.1, by have := (len_bd HE.out (HIN.out _ _ (lastS_get h02))).2; omega⟩
  obtain ⟨fr, hfr⟩ : ∃ fr, fr = idxS l2 (lastS l1) := ⟨_, rfl⟩
  have HFR := Lib.hid hfr
  have HIX : Hid (∀ w' : World, Ext w w' → Calls Tryd.prog 33 #[.slice A2 l2.length c2, .agg #[.int .i64 (lastS l1).el, .int .i64 (lastS l1).in_, .int .i64 (lastS l1).out_]] w' fun e w2 => e = .returned (.int .i64 fr) ∧ Below w'.heap.size w' w2) := fun w' h1 => by
    have := index_any A2 l2 c2 (lastS l1) w' (HR2.out.keep h1) (by unfold maxLen; omega)
    rw [← HFR.out] at this; exact this
  have HV : Hid (readsV L.els L.jts L.bals l1 head1 len1 l2 head2 len2 = reaF (strV L.els l2 head2) (sortP (passT L.els fr head1 L.bals l2 l2.length))) := by
    show _ = _; unfold readsV passA; rw [if_pos ⟨hk1, hk2⟩, ← HFR.out]
  have HNP : Hid ((passT L.els fr head1 L.bals l2 l2.length).length ≤ N) := by have := HNN.out; unfold passA at this; rw [← HFR.out] at this; exact this
  clear hk1 hk2 hfr hh2
  obtain ⟨bw, ow, s, hA1, hs, hbs, s0, s1, s2⟩ := rd_st HR1.out (Ext.refl w) (k := l1.length - 1) (by omega)
  obtain rfl : s = lastS l1 := by have := lastS_get h01; rw [hs] at this; cases this; rfl
  subst hA1
  obtain ⟨b2, o2, sz, hA2, _⟩ := rd_st HR2.out (Ext.refl w) (k := 0) h02
  subst hA2
  have n1 : IntKind.i64.wrap ((l1.length : Int) - 1) = (l1.length : Int) - 1 := IntWalk.i64_in _ (by omega)
  have n2 : ((l1.length : Int) - 1).toNat = l1.length - 1 := by omega
  have n3 : (0 : Int) ≤ (l1.length : Int) - 1 := by omega
  have n4 : (l1.length : Int) - 1 < (l1.length : Int) := by omega
  have n5 : (1 : Int) ≤ (l1.length : Int) := by omega
  have n6 : 1 ≤ l1.length := by omega
  have n7 : l1.length - 1 < l1.length := by omega
  have n8 : ((l1.length : Int) == 0) = false := beq_eq_false_iff_ne.2 (by omega)
  have n9 : ((l2.length : Int) == 0) = false := beq_eq_false_iff_ne.2 (by omega)
  clear hs
  go_enter Tryd.func11, Tryd.ntmps11
  go_upto_region 5 with (first | (go_at_call 24; refine (to_after (HC1.out _ E0.out)).mono ?_; clear HC1; rintro e w' ⟨y, rfl, rfl⟩; have y1 : w.heap.size + 2 < y.val.heap.size := (by have h := y.is.size; simp at h; omega)) | (go_at_call 24; refine (in_after _ (HC2.out _ (etr E0.out (After.is _)))).mono ?_; rintro e w' ⟨z, rfl, rfl⟩))
  have hb1 : bw < w.heap.size + 1 := by omega
  have hb2 : bw < w.heap.size + 1 + 1 := by omega
  have hb3 : bw < w.heap.size + 1 + 1 + 1 := by omega
  have z1 : w.heap.size + 2 < z.val.heap.size := by have h := z.is.size; simp at h; omega
  refine wp_region_in z (by kernel_rfl) (by kernel_rfl) ?_
  repeat (first | go_big_quiet_step ((go_at_call 33; exact after_call _ (HIX.out _ (etr E0.out (After.is _))))))
  refine wpQuiet_nil ?_
  rintro _ ⟨y2, rfl⟩
  have E2 : Hid (Ext w y2.val) := etr E0.out y2.is
  have y2s : w.heap.size + 2 < y2.val.heap.size := by have h := y2.is.size; simp at h; omega
  have LB : Hid (LayAt y2.val w.heap.size L) := CellsAt.keep (CellsAt.alloc (CellsAt.alloc (CellsAt.new rfl) _) _) y2.is
  have B1 : Hid (BdyAt y2.val (w.heap.size + 1) (some ⟨bw, ow, none⟩) l1 c1 head1 len1) := CellsAt.keep (CellsAt.alloc (CellsAt.new (by simp)) _) y2.is
  have B2 : Hid (BdyAt y2.val (w.heap.size + 1 + 1) (some ⟨b2, o2, none⟩) l2 c2 head2 len2) := CellsAt.keep (CellsAt.new (by simp)) y2.is
  clear hb1 hb2 hb3 HIX HC2 s0 s1 s2 n1 n2 n3 n4 n5 n6 n7 n8 n9 z1 y1 hbs
  go_wp2
  go_loopg [8, 9, 10, 54] l2.length (fun g x8 x9 x10 ix wr => ∃ (k : Nat) (at_ front : Int) (xs : List Pas), ix = .int .i64 k ∧ x9 = .int .i64 at_ ∧ x10 = .int .i64 front ∧ k ≤ l2.length ∧ g = l2.length - k ∧ Hid (Ext y2.val wr) ∧ Hid (OwnL wr y2.val.heap.size 90 2 Pc x8 xs) ∧ Hid (at_ = sumL L.els (l2.take k) ∧ xs = passT L.els fr head1 L.bals l2 k ∧ (0 < k → front = sumL L.els (l2.take (k - 1)) + head2)))
  case atStart => exact ⟨0, 0, 0, [], rfl, rfl, rfl, by omega, by omega, Ext.refl _, OwnL.nil, rfl, rfl, fun h => absurd h (by omega)⟩
  case round =>
    obtain ⟨wi, rfl⟩ : ∃ wi : World, wi = wr := ⟨_, rfl⟩
    obtain ⟨k, at_, front, xs, rfl, rfl, rfl, hk, hg, X, O, H⟩ := hrel
    have HG := Lib.hid hg
    clear hg
    obtain ⟨l0, a0, a1, a2, a3, a4, a5⟩ := layAt_cells (LB.out.keep X.out)
    obtain ⟨g10, g11, g12, g13⟩ := bdyAt_cells (B1.out.keep X.out)
    obtain ⟨g20, g21, g22, g23⟩ := bdyAt_cells (B2.out.keep X.out)
    by_cases hlt : k < l2.length
    · have q0 : decide ((k : Int) < (l2.length : Int)) = true := decide_eq_true (by omega)
      obtain ⟨b2', o2', s, hA2, hs, hbs, s0, s1, s2⟩ := rd_st HR2.out (etr E2.out X.out) hlt
      cases hA2
      have HS := Lib.hid hs
      obtain ⟨kE, x, hel, hx, hxe⟩ := has_at (HIN.out k s hs)
      have hxb := HE.out kE x hx
      have hkE := (List.getElem?_eq_some_iff.1 hx).1
      have hmE := HL.out.lE
      unfold maxLen at hmE
      obtain ⟨bE, oE, x', hAE, hx', hbE, e0, e1, e2, e3, e4, e5, e6⟩ := rd_el HL.out.hE (etr E2.out X.out) hkE
      rw [hx] at hx'
      cases hx'
      have HAE := Lib.hid hAE
      have HXE := Lib.hid hx
      have hsum := sumL_bd HE.out (wayIn_take HIN.out k)
      rw [← H.out.1] at hsum
      have hkl : (l2.take k).length ≤ 200 := by rw [List.length_take]; omega
      have HX : Hid (hasEl L.els s.el) := HIN.out k s hs
      have HLX : Hid (lenOf L.els s = x.len) := by show _ = _; unfold lenOf; rw [hxe]
      have hfro := HBH.out
      have w1 : IntKind.i64.wrap (at_ + head2) = at_ + head2 := IntWalk.i64_in _ (by omega)
      have w2 : IntKind.i64.wrap (at_ + x.len) = at_ + x.len := IntWalk.i64_in _ (by omega)
      have hbE1 := lt_up2 hbE
      have hb2s := lt_up2 hbs
      have i1 : (0 : Int) ≤ (kE : Int) := by omega
      have i2 : (kE : Int) < (L.els.length : Int) := by omega
      have p1 : decide ((kE : Int) < 0) = false := decide_eq_false (by omega)
      have p2 : decide ((L.els.length : Int) ≤ (kE : Int)) = false := decide_eq_false (by omega)
      have p3 : decide (L.els.length ≤ kE) = false := decide_eq_false (by omega)
      have q5 : k + 1 ≤ l2.length := by omega
      have hat : 0 ≤ at_ ∧ at_ ≤ 200000000 := by omega
      obtain ⟨el, in_, out_⟩ := s
      obtain rfl : el = (kE : Int) := hel
      simp only [] at s0 s1 s2
      have HXL : Hid (xs.length ≤ 200 * 60) := by
        have h1 := passT_len L.els fr head1 L.bals l2 k
        rw [← H.out.2.1] at h1
        have h2 := Nat.mul_le_mul (show k ≤ 200 by omega) hbm
        exact Nat.le_trans h1 h2
      have E4 : Hid (Ext wi (wi.alloc (.cells #[.int .i64 (kE : Int), .int .i64 in_, .int .i64 out_] 75))) := eal (Ext.refl _) _
      rw [hAE] at a2
      clear hs hx hxe hAE hsum
      by_cases hfr : fr ≤ (k : Int)
      · have q1 : decide (fr ≤ (k : Int)) = true := decide_eq_true hfr
        clear hfr
        have E5 : Hid (Ext y2.val (wi.alloc (.cells #[.int .i64 (kE : Int), .int .i64 in_, .int .i64 out_] 75))) := etr X.out E4.out
        have C0 : Hid (CellsAt (wi.alloc (.cells #[.int .i64 (kE : Int), .int .i64 in_, .int .i64 out_] 75)) wi.heap.size [.int .i64 (kE : Int), .int .i64 in_, .int .i64 out_]) := CellsAt.new rfl
        have O5 : Hid (OwnL (wi.alloc (.cells #[.int .i64 (kE : Int), .int .i64 in_, .int .i64 out_] 75)) y2.val.heap.size 90 2 Pc u8 xs ∧ u8.ownBlock ≠ some wi.heap.size) := ⟨O.out.keep E4.out, fun e => by have := (O.out.lt _ e).2; omega⟩
        go_wp2
        clear a0 a1 a3 a4 a5 g10 g11 g12 g13 g20 g21 g22 g23 s0 s1 s2 l0
        have HA2 := Lib.hid a2
        clear a2
        go_loopg [8, 80] L.bals.length (fun g x8 ix wj => ∃ (j : Nat) (ys : List Pas), ix = .int .i64 j ∧ j ≤ L.bals.length ∧ g = L.bals.length - j ∧ Hid (Ext y2.val wj) ∧ Hid (OwnL wj y2.val.heap.size 90 2 Pc x8 ys ∧ x8.ownBlock ≠ some wi.heap.size) ∧ Hid (CellsAt wj wi.heap.size [.int .i64 (kE : Int), .int .i64 in_, .int .i64 out_]) ∧ Hid (ys = xs ++ passL L.els fr head1 k at_ ⟨(kE : Int), in_, out_⟩ (L.bals.take j)))
        case atStart => exact ⟨0, xs, rfl, by omega, by omega, E5.out, O5.out, C0.out, by show _ = _; simp [passL]⟩
        case round =>
          obtain ⟨j, ys, rfl, hj, hg, X, O, C, HY⟩ := hrel
          have HG2 := Lib.hid hg
          clear hg
          obtain ⟨l0, a0, a1, a2, a3, a4, a5⟩ := layAt_cells (LB.out.keep X.out)
          obtain ⟨g10, g11, g12, g13⟩ := bdyAt_cells (B1.out.keep X.out)
          obtain ⟨g20, g21, g22, g23⟩ := bdyAt_cells (B2.out.keep X.out)
          have c0 := C.out.1
          have c1_ := C.out.2 0 _ rfl
          have c2_ := C.out.2 1 _ rfl
          have c3_ := C.out.2 2 _ rfl
          by_cases hlj : j < L.bals.length
          · have q2 : decide ((j : Int) < (L.bals.length : Int)) = true := decide_eq_true (by omega)
            have q6 : j + 1 ≤ L.bals.length := by omega
            obtain ⟨bB, oB, b, hAB, hb, hbb, d0, d1, d2⟩ := rd_ba HL.out.hB (etr E2.out X.out) hlj
            have HBS := Lib.hid hb
            have hpl := placeV_bd HE.out HB.out hb (s := ⟨(kE : Int), in_, out_⟩) HX.out
            have hbd := bal_bd HE.out HB.out hb
            have HAB := Lib.hid hAB
            have hbb1 := lt_up2 hbb
            obtain ⟨pv, hpv⟩ : ∃ pv, pv = placeV L.els ⟨(kE : Int), in_, out_⟩ b := ⟨_, rfl⟩
            obtain ⟨pb, hpb⟩ : ∃ pb, pb = placeB ⟨(kE : Int), in_, out_⟩ b := ⟨_, rfl⟩
            have HPV := Lib.hid hpv
            have HPB := Lib.hid hpb
            have HPL : Hid (∀ w' : World, Ext w w' → Calls Tryd.prog 34 #[.agg #[.string L.name, .slice L.aS L.secs.length L.cS, .slice L.aE L.els.length L.cE, .slice L.aJ L.jts.length L.cJ, .slice L.aG L.sgs.length L.cG, .slice L.aB L.bals.length L.cB], .agg #[.int .i64 (kE : Int), .int .i64 in_, .int .i64 out_], .agg #[.int .i64 b.id, .int .i64 b.el, .int .i64 b.off]] w' fun e w2 => e = .returned (.tuple #[.int .i64 pv, .bool pb]) ∧ Below w'.heap.size w' w2) := fun w' h1 => by
              have := place_any L ⟨(kE : Int), in_, out_⟩ b w' (HL.out.keep h1) HE.out HX.out hbd
              rw [← HPV.out, ← HPB.out] at this
              exact this
            rw [← hpv] at hpl
            have w3 : IntKind.i64.wrap (at_ + pv) = at_ + pv := IntWalk.i64_in _ (by omega)
            have E6 : Hid (Ext wr (wr.alloc (.cells #[.int .i64 b.id, .int .i64 b.el, .int .i64 b.off] 86))) := eal (Ext.refl _) _
            have HST := passL_step (els := L.els) (fr := fr) (head := head1) (at_ := at_) (i := k) (s := ⟨(kE : Int), in_, out_⟩) hb
            rw [HAE.out] at HPL
            rw [hAB] at a5 HPL ⊢
            rw [HAE.out] at a2
            clear hAB hb hpv hpb hbd
            have key : (pb = false ∨ (pb = true ∧ ((k : Int) != fr) = false ∧ decide (head1 < pv) = false)) ∧ Hid (passB L.els fr head1 k ⟨(kE : Int), in_, out_⟩ b = false) ∨ (pb = true ∧ ((k : Int) != fr) = true ∨ (pb = true ∧ ((k : Int) != fr) = false ∧ decide (head1 < pv) = true)) ∧ Hid (passB L.els fr head1 k ⟨(kE : Int), in_, out_⟩ b = true) := by
              have hpb' : passB L.els fr head1 k ⟨(kE : Int), in_, out_⟩ b = (pb && (decide ((k : Int) ≠ fr) || decide (head1 < pv))) := by unfold passB; rw [← HPV.out, ← HPB.out]
              cases pb
              · exact .inl ⟨.inl rfl, by show _ = _; rw [hpb']; rfl⟩
              · by_cases h1 : (k : Int) = fr
                · by_cases h2 : head1 < pv
                  · exact .inr ⟨.inr ⟨rfl, by simpa using h1, decide_eq_true h2⟩, by show _ = _; rw [hpb']; simp [h2]⟩
                  · exact .inl ⟨.inr ⟨rfl, by simpa using h1, decide_eq_false h2⟩, by show _ = _; rw [hpb']; simp [h1, h2]⟩
                · exact .inr ⟨.inl ⟨rfl, by simpa using h1⟩, by show _ = _; rw [hpb']; simp [h1]⟩
            rcases key with ⟨key, HP⟩ | ⟨key, HP⟩
            · have HN : Hid (ys = xs ++ passL L.els fr head1 k at_ ⟨(kE : Int), in_, out_⟩ (L.bals.take (j + 1))) := by
                show _ = _
                rw [HST, HP.out, if_neg (by simp)]
                exact HY.out
              clear HST
              rcases key with rfl | ⟨rfl, r1, r2⟩
              all_goals
                clear HPB
                go_wp2_with (go_at_call 34; refine (to_after (HPL.out _ (etr E2.out (etr X.out E6.out)))).mono ?_; rintro e w' ⟨y5, rfl, rfl⟩; have y5s : wr.heap.size < y5.val.heap.size := (by have h := y5.is.size; simp at h; omega))
                rw [← HAB.out]
                go_roundg (L.bals.length - (j + 1))
                case measure => have := HG2.out; omega
                case rel => exact ⟨j + 1, ys, by go_num, by omega, rfl, etr X.out (etr E6.out y5.is), ⟨O.out.1.keep (etr E6.out y5.is), O.out.2⟩, C.out.keep (etr E6.out y5.is), HN.out⟩
            · have HN : Hid (ys ++ [⟨at_ + pv, b.id⟩] = xs ++ passL L.els fr head1 k at_ ⟨(kE : Int), in_, out_⟩ (L.bals.take (j + 1))) := by
                show _ = _
                rw [HST, HP.out, if_pos rfl, ← HPV.out, ← List.append_assoc, ← HY.out]
              have hyl : ys.length ≤ 200 * 60 + 60 := by
                have h1 := congrArg List.length HY.out
                rw [List.length_append] at h1
                have h2 := passL_len L.els fr head1 at_ k ⟨(kE : Int), in_, out_⟩ (L.bals.take j)
                have h3 : (L.bals.take j).length ≤ L.bals.length := List.length_take_le' _ _
                have h4 := HXL.out
                omega
              clear HST
              rcases key with ⟨rfl, r1⟩ | ⟨rfl, r1, r2⟩
              all_goals
                clear HPB
                go_upto_region 20 with (go_at_call 34; refine (to_after (HPL.out _ (etr E2.out (etr X.out E6.out)))).mono ?_; rintro e w' ⟨y5, rfl, rfl⟩; have y5s : wr.heap.size < y5.val.heap.size := (by have h := y5.is.size; simp at h; omega))
                have X6 : Hid (Ext wr (y5.val.alloc (.cells #[.int .i64 (at_ + pv), .int .i64 b.id] 90))) := etr E6.out (eal y5.is _)
                have C6 : Hid (CellsAt (y5.val.alloc (.cells #[.int .i64 (at_ + pv), .int .i64 b.id] 90)) y5.val.heap.size (Pc ⟨at_ + pv, b.id⟩)) := CellsAt.new rfl
                have HPI := HII
                clear HPL
                go_wp2_with (at_builtin
                             refine wp_appE (u := y2.val) Pc_len Pc_one Tryd.underlying84 HII.out hz0 hz1 hz2 rfl (by decide) rfl rfl rfl (O.out.1.keep X6.out) (etr X.out X6.out) ⟨at_ + pv, b.id⟩ y5.val.heap.size (by simp [go_sem]) C6.out (by omega) (by unfold maxLen; omega) ?_
                             intro v1 w6 H6)
                rw [← HAB.out]
                go_roundg (L.bals.length - (j + 1))
                case measure => have := HG2.out; omega
                case rel =>
                  have hcc := H6.out.2.2 wi.heap.size _ O.out.2 (C.out.keep X6.out)
                  exact ⟨j + 1, _, by go_num, by omega, rfl, H6.out.2.1, ⟨H6.out.1, hcc.2⟩, hcc.1, HN.out⟩
          · have q2 : decide ((j : Int) < (L.bals.length : Int)) = false := decide_eq_false (by omega)
            have HT : Hid (L.bals.take j = L.bals) := by show _ = _; rw [List.take_of_length_le (by omega)]
            have HNX : Hid (at_ + x.len = sumL L.els (l2.take (k + 1)) ∧ ys = passT L.els fr head1 L.bals l2 (k + 1) ∧ (0 < k + 1 → at_ + head2 = sumL L.els (l2.take (k + 1 - 1)) + head2)) := by
              refine ⟨?_, ?_, fun _ => ?_⟩
              · rw [sumL_take L.els HS.out, ← H.out.1, HLX.out]
              · show _ = _ ++ _
                rw [passI_at HS.out (of_decide_eq_true q1), ← H.out.2.1, ← H.out.1]
                have := HY.out
                rw [HT.out] at this
                exact this
              · rw [Nat.add_sub_cancel, ← H.out.1]
            have hbE2 : bE < wr.heap.size := by have := C.out.1; omega
            rw [HAE.out] at a2
            have e2' : wr.cell? ⟨bE, oE + kE * 7 + 1 + 1, none⟩ = some (.int .i64 x.len) := by
              obtain ⟨_, _, _, h, _⟩ := rd_el_at (by have := HL.out.hE; rw [HAE.out] at this; exact this) (etr E2.out X.out) HXE.out
              exact h
            clear e0 e1 e2 e3 e4 e5 e6
            go_wp2
            go_roundg (l2.length - (k + 1))
            case measure => have := HG.out; omega
            case rel => exact ⟨k + 1, at_ + x.len, at_ + head2, ys, by go_num, rfl, rfl, by omega, rfl, X.out, O.out.1, HNX.out⟩
      · have q1 : decide (fr ≤ (k : Int)) = false := decide_eq_false hfr
        have HNX : Hid (at_ + x.len = sumL L.els (l2.take (k + 1)) ∧ xs = passT L.els fr head1 L.bals l2 (k + 1) ∧ (0 < k + 1 → at_ + head2 = sumL L.els (l2.take (k + 1 - 1)) + head2)) := by
          refine ⟨?_, ?_, fun _ => ?_⟩
          · rw [sumL_take L.els HS.out, ← H.out.1, HLX.out]
          · show _ = _ ++ _
            rw [passI_no hfr, List.append_nil, ← H.out.2.1]
          · rw [Nat.add_sub_cancel, ← H.out.1]
        clear hfr
        go_wp2
        go_roundg (l2.length - (k + 1))
        case measure => have := HG.out; omega
        case rel => exact ⟨k + 1, at_ + x.len, at_ + head2, xs, by go_num, rfl, rfl, by omega, rfl, etr X.out E4.out, O.out.keep E4.out, HNX.out⟩
    · have ek : k = l2.length := by omega
      subst ek
      have hxb : xs.length ≤ 200 * 60 := by
        have h1 := passT_len L.els fr head1 L.bals l2 l2.length
        rw [← H.out.2.1] at h1
        have h2 := Nat.mul_le_mul (show l2.length ≤ 200 by omega) hbm
        exact Nat.le_trans h1 h2
      have HFT : Hid (front = strV L.els l2 head2) := by show _ = _; rw [H.out.2.2 h02]; rfl
      obtain ⟨A8, c8, rfl, _, hm8⟩ := O.out.rd Pc_len
      have HSR := Lib.hid (HSO.out y2.val.heap.size (.slice A8 xs.length c8) xs wi O.out (by rw [H.out.2.1]; exact HNP.out))
      have HPB : Hid (∀ p ∈ sortP xs, 0 ≤ p.place ∧ p.place ≤ 400000000) := fun p hp => by
        have hp2 := (sortP_perm xs).subset hp
        rw [H.out.2.1] at hp2
        obtain ⟨i, s, b, j, hi, hs, hb, _, _, rfl⟩ := passT_mem hp2 (Nat.le_refl _)
        have h1 := placeV_bd HE.out HB.out hb (HIN.out i s hs)
        have h2 := sumL_bd HE.out (wayIn_take HIN.out i)
        have h3 : (l2.take i).length ≤ l2.length := List.length_take_le' _ _
        show 0 ≤ _ + _ ∧ _ + _ ≤ _
        omega
      have hfb : 0 ≤ front ∧ front ≤ 400000000 := by
        have h1 := H.out.2.2 h02
        have h2 := sumL_bd HE.out (wayIn_take HIN.out (l2.length - 1))
        have h3 : (l2.take (l2.length - 1)).length ≤ l2.length := List.length_take_le' _ _
        have h4 := HBH.out
        omega
      have HRV : Hid (reaF front (sortP xs) = readsV L.els L.jts L.bals l1 head1 len1 l2 head2 len2) := by show _ = _; rw [HV.out, HFT.out, H.out.2.1]
      have hxl : (sortP xs).length = xs.length := sortP_len xs
      have q0 : decide ((l2.length : Int) < (l2.length : Int)) = false := decide_eq_false (by omega)
      have EW : Hid (Ext w wi) := etr E2.out X.out
      have ES := Lib.hid E2.out.size
      clear a0 a1 a2 a3 a4 a5 g10 g11 g12 g13 g20 g21 g22 g23 l0 H
      have hm9 := hm8
      unfold maxLen at hm9
      obtain ⟨i1, hi1, hy0, hy1, hy2⟩ := info_parts inf_Rea
      have HI1 := Lib.hid hi1
      clear hi1
      go_wp2_with (go_at_call 35; refine HSR.out.mono ?_; rintro e w9 ⟨rfl, ⟨A9, c9, h9, hr9⟩, hb9⟩; cases h9; have HR9 := Lib.hid hr9; have HB9 := Lib.hid hb9; clear hr9 hb9)
      go_loopg [17, 127] xs.length (fun g x17 ix wq => ∃ (j : Nat) (zs : List Rea), ix = .int .i64 j ∧ j ≤ xs.length ∧ g = xs.length - j ∧ Hid (Ext w9 wq) ∧ Hid (OwnL wq w9.heap.size 56 2 Rec x17 zs) ∧ Hid (zs = reaF front ((sortP xs).take j)))
      case atStart => exact ⟨0, [], rfl, by omega, by omega, Ext.refl _, OwnL.nil, rfl⟩
      case round =>
        obtain ⟨wq, rfl⟩ : ∃ wq : World, wq = wr := ⟨_, rfl⟩
        obtain ⟨j, zs, rfl, hj, hg, X9, O9, HZ⟩ := hrel
        have HG2 := Lib.hid hg
        clear hg
        by_cases hlj : j < xs.length
        · have q2 : decide ((j : Int) < (xs.length : Int)) = true := decide_eq_true (by omega)
          have q6 : j + 1 ≤ xs.length := by omega
          obtain ⟨bP, oP, p, rfl, hp, hbp, d0, d1⟩ := rd_pas (k := j) HR9.out X9.out (by omega)
          have hpb := HPB.out p (List.mem_of_getElem? hp)
          have w1 : IntKind.i64.wrap (front - p.place) = front - p.place := IntWalk.i64_in _ (by omega)
          have HST := reaF_step (front := front) hp
          have hbp1 := lt_up2 hbp
          have E9 : Hid (Ext wq (wq.alloc (.cells #[.int .i64 p.place, .int .i64 p.id] 90))) := eal (Ext.refl _) _
          have hzl : zs.length ≤ xs.length := by
            have h1 := congrArg List.length HZ.out
            have h2 := reaF_len front ((sortP xs).take j)
            have h3 : ((sortP xs).take j).length ≤ (sortP xs).length := List.length_take_le' _ _
            omega
          clear hp
          by_cases hle : p.place ≤ front
          · have q3 : decide (p.place ≤ front) = true := decide_eq_true hle
            have HN : Hid (zs ++ [⟨p.id, front - p.place⟩] = reaF front ((sortP xs).take (j + 1))) := by show _ = _; rw [HST, if_pos hle, ← HZ.out]
            clear hle HST
            go_upto_region 30 with (fail)
            have X6 : Hid (Ext wq ((wq.alloc (.cells #[.int .i64 p.place, .int .i64 p.id] 90)).alloc (.cells #[.int .i64 p.id, .int .i64 (front - p.place)] 56))) := eal E9.out _
            have C6 : Hid (CellsAt ((wq.alloc (.cells #[.int .i64 p.place, .int .i64 p.id] 90)).alloc (.cells #[.int .i64 p.id, .int .i64 (front - p.place)] 56)) (wq.heap.size + 1) (Rec ⟨p.id, front - p.place⟩)) := CellsAt.new (by simp)
            go_wp2_with (at_builtin
                         refine wp_appE (u := w9) Rec_len Rec_one Tryd.underlying53 HI1.out hy0 hy1 hy2 rfl (by decide) rfl rfl rfl (O9.out.keep X6.out) (etr X9.out X6.out) ⟨p.id, front - p.place⟩ (wq.heap.size + 1) (by simp [go_sem]) C6.out (by omega) (by unfold maxLen; omega) ?_
                         intro v1 w6 H6)
            go_roundg (xs.length - (j + 1))
            case measure => have := HG2.out; omega
            case rel => exact ⟨j + 1, _, by go_num, by omega, rfl, H6.out.2.1, H6.out.1, HN.out⟩
          · have q3 : decide (p.place ≤ front) = false := decide_eq_false hle
            have HN : Hid (zs = reaF front ((sortP xs).take (j + 1))) := by show _ = _; rw [HST, if_neg hle, ← HZ.out]
            clear hle HST
            go_wp2
            go_roundg (xs.length - (j + 1))
            case measure => have := HG2.out; omega
            case rel => exact ⟨j + 1, zs, by go_num, by omega, rfl, etr X9.out E9.out, O9.out.keep E9.out, HN.out⟩
        · have q2 : decide ((j : Int) < (xs.length : Int)) = false := decide_eq_false (by omega)
          have HF : Hid (zs = readsV L.els L.jts L.bals l1 head1 len1 l2 head2 len2) := by
            show _ = _
            rw [HZ.out, List.take_of_length_le (by omega), HRV.out]
          obtain ⟨A7, c7, rfl, hr7, hm7⟩ := O9.out.rd Rec_len
          have HR7 := Lib.hid hr7
          clear hr7 hm7
          have HRT : Hid (Ending.returned (.slice A7 zs.length c7) = .returned (.slice A7 (readsV L.els L.jts L.bals l1 head1 len1 l2 head2 len2).length c7)) := by show _ = _; rw [HF.out]
          have HR6 : Hid (Rd wq A7 2 Rec (readsV L.els L.jts L.bals l1 head1 len1 l2 head2 len2)) := by rw [← HF.out]; exact HR7.out
          have EF : Hid (Ext w wq) := etr (Below.trans EW.out (HB9.out.mono ES.out)) X9.out
          go_wp2
          go_ret
          exact ⟨A7, c7, HRT.out, HR6.out, EF.out⟩
end
end Go.Proofs.YticonpjkcocgeaaDoor
