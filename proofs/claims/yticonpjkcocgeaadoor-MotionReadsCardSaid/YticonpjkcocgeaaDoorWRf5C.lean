/- Walk: the reference's Reads. Printed by gen_rf5c.py. -/
import Derived.Test.YticonpjkcocgeaaDoorWRf5B
import Derived.Test.YticonpjkcocgeaaDoorWReaD
import Derived.Test.YticonpjkcocgeaaDoorHead
set_option linter.unusedVariables false
set_option linter.unusedSimpArgs false
set_option maxRecDepth 100000
namespace Go.Proofs.YticonpjkcocgeaaDoor
open Go.ChangeShapes Go.WideShapes Go.ChangeAt Go.RowKit
open Sg

theorem sl_one (b o n c k : Nat) (hk : k < n) (hc : n ≤ c) (w : World) : (Instr.slice 30 (.slice (some ⟨b, o, none⟩) n c) (some (.int .i64 (k : Int))) (some (.int .i64 ((k : Int) + 1))) none).run Tryd.prog w = .ok (.slice (some ⟨b, o + k * 3, none⟩) 1 (c - k)) w := by
  rw [run_slice_lh w 30 (some ⟨b, o, none⟩) n c (by kernel_rfl) .i64 .i64 (k : Int) ((k : Int) + 1) (by omega) (by omega) (by omega)]
  have hs : (sizeOf (Tryd.prog.elem 30)).run Tryd.prog w = .ok 3 w := by simp [go_sem]
  have e : ((k : Int) + 1).toNat = k + 1 := by omega
  rw [hs, e]
  simp only [Result.andThen, sliced, Int.toNat_natCast]
  rw [if_neg (by omega), show k + 1 - k = 1 by omega]
  congr 2
  show some ((⟨b, o, none⟩ : Addr).add (k * 3)) = _
  rw [add_plain]
theorem rd_one {w : World} {b o : Nat} {l : List Stp} {k : Nat} {s : Stp} (h : Rd w (some ⟨b, o, none⟩) 3 Stc l) (hs : l[k]? = some s) : Rd w (some ⟨b, o + k * 3, none⟩) 3 Stc [s] := by
  have h1 := rd_take (rd_drop h k) 1
  obtain ⟨hl, rfl⟩ := List.getElem?_eq_some_iff.1 hs
  rw [List.drop_eq_getElem_cons hl] at h1
  exact h1
theorem fndT_bd {els : List Elm} {fr head front : Int} {bals : List Bls} {way : List Stp} (hE : ElsOk els) (hB : BalOk els bals) (hw : WayIn els way) : ∀ k, k ≤ way.length → ∀ p ∈ fndT els fr head front bals way k, -1000000 ≤ p.place ∧ p.place ≤ front
  | 0, _, p, hp => by simp [fndT] at hp
  | k + 1, hk, p, hp => by
    unfold fndT at hp
    rcases List.mem_append.1 hp with h | h
    · exact fndT_bd hE hB hw k (by omega) p h
    · have hs : way[k]? = some (way[k]'(by omega)) := List.getElem?_eq_getElem (by omega)
      rw [fndI_at hs] at h
      have h1 := (sortP_perm _).subset (List.mem_filter.1 h).1
      obtain ⟨b, hb, rfl, h2, h3⟩ := ofL_mem h1
      obtain ⟨i, hi, e⟩ := List.getElem_of_mem hb
      have hb' : bals[i]? = some b := by rw [List.getElem?_eq_getElem hi, e]
      have h4 := rplc_bd (els := els) (b := b) (len_bd hE (hw k _ hs)) (bal_bd hE hB hb')
      have h5 := sumL_bd hE (wayIn_take hw k)
      exact ⟨by show _ ≤ _ + _; omega, h2⟩
theorem linF_step {front : Int} {l : List Pas} {j : Nat} {p : Pas} (h : l[j]? = some p) : linF front (l.take (j + 1)) = linF front (l.take j) ++ [⟨p.id, front - p.place⟩] := by
  obtain ⟨hl, rfl⟩ := List.getElem?_eq_some_iff.1 h
  rw [List.take_succ_eq_append_getElem hl]
  unfold linF
  rw [List.map_append]; rfl
section
set_option maxHeartbeats 32000000
theorem reads51_any (L : Lay) (A1 : Option Addr) (l1 : List Stp) (c1 : Nat) (head1 len1 : Int) (A2 : Option Addr) (l2 : List Stp) (c2 : Nat) (head2 len2 : Int) (w : World) (hL : LayOk w L) (hE : ElsOk L.els) (hB : BalOk L.els L.bals) (hbm : L.bals.length ≤ 60)
    (hr1 : Rd w A1 3 Stc l1) (hm1 : l1.length ≤ 200) (hc1 : l1.length ≤ c1) (hr2 : Rd w A2 3 Stc l2) (hm2 : l2.length ≤ 200) (hc2 : l2.length ≤ c2) :
    Calls Tryd.prog 21 #[.agg #[.string L.name, .slice L.aS L.secs.length L.cS, .slice L.aE L.els.length L.cE, .slice L.aJ L.jts.length L.cJ, .slice L.aG L.sgs.length L.cG, .slice L.aB L.bals.length L.cB], .agg #[.slice A1 l1.length c1, .int .i64 head1, .int .i64 len1], .agg #[.slice A2 l2.length c2, .int .i64 head2, .int .i64 len2]] w (ReadsRet w (readsV L.els L.jts L.bals l1 head1 len1 l2 head2 len2)) := by
  have HL := Lib.hid hL
  have HE := Lib.hid hE
  have HB := Lib.hid hB
  have HR1 := Lib.hid hr1
  have HR2 := Lib.hid hr2
  have HCC := Lib.hid hc2
  obtain ⟨k1, hk1⟩ : ∃ k, k = chkM L.els L.jts l1 head1 len1 := ⟨_, rfl⟩
  obtain ⟨k2, hk2⟩ : ∃ k, k = chkM L.els L.jts l2 head2 len2 := ⟨_, rfl⟩
  have HK1 := Lib.hid hk1
  have HK2 := Lib.hid hk2
  have HC1 : Hid (∀ w' : World, Ext w w' → Calls Tryd.prog 39 #[.agg #[.string L.name, .slice L.aS L.secs.length L.cS, .slice L.aE L.els.length L.cE, .slice L.aJ L.jts.length L.cJ, .slice L.aG L.sgs.length L.cG, .slice L.aB L.bals.length L.cB], .agg #[.slice A1 l1.length c1, .int .i64 head1, .int .i64 len1]] w' fun e w2 => e = .returned (.int .i64 k1) ∧ Below w'.heap.size w' w2) := fun w' h1 => by
    have := rbchk_any L A1 l1 c1 head1 len1 w' (HL.out.keep h1) HE.out (HR1.out.keep h1) hm1 hc1
    rw [← HK1.out] at this; exact this
  have HC2 : Hid (∀ w' : World, Ext w w' → Calls Tryd.prog 39 #[.agg #[.string L.name, .slice L.aS L.secs.length L.cS, .slice L.aE L.els.length L.cE, .slice L.aJ L.jts.length L.cJ, .slice L.aG L.sgs.length L.cG, .slice L.aB L.bals.length L.cB], .agg #[.slice A2 l2.length c2, .int .i64 head2, .int .i64 len2]] w' fun e w2 => e = .returned (.int .i64 k2) ∧ Below w'.heap.size w' w2) := fun w' h1 => by
    have := rbchk_any L A2 l2 c2 head2 len2 w' (HL.out.keep h1) HE.out (HR2.out.keep h1) hm2 hc2
    rw [← HK2.out] at this; exact this
  obtain ⟨w3, hw3⟩ : ∃ q, q = (((w.alloc (.cells #[.string L.name, .slice L.aS L.secs.length L.cS, .slice L.aE L.els.length L.cE, .slice L.aJ L.jts.length L.cJ, .slice L.aG L.sgs.length L.cG, .slice L.aB L.bals.length L.cB] 28)).alloc (.cells #[.slice A1 l1.length c1, .int .i64 head1, .int .i64 len1] 32)).alloc (.cells #[.slice A2 l2.length c2, .int .i64 head2, .int .i64 len2] 32)) := ⟨_, rfl⟩
  have E0 : Hid (Ext w w3) := by rw [hw3]; exact eal (eal (eal (Ext.refl _) _) _) _
  have LB0 : Hid (LayAt w3 w.heap.size L) := by rw [hw3]; exact CellsAt.alloc (CellsAt.alloc (CellsAt.new rfl) _) _
  have B10 : Hid (BdyAt w3 (w.heap.size + 1) A1 l1 c1 head1 len1) := by rw [hw3]; exact CellsAt.alloc (CellsAt.new (by simp)) _
  have B20 : Hid (BdyAt w3 (w.heap.size + 1 + 1) A2 l2 c2 head2 len2) := by rw [hw3]; exact CellsAt.new (by simp)
  clear hL hE hB hr1 hr2
  obtain ⟨l0, a0, a1, a2, a3, a4, a5⟩ := layAt_cells LB0.out
  obtain ⟨g10, g11, g12, g13⟩ := bdyAt_cells B10.out
  obtain ⟨g20, g21, g22, g23⟩ := bdyAt_cells B20.out
  by_cases q1 : k1 = 0
  case neg =>
    have HV : Hid ((readsV L.els L.jts L.bals l1 head1 len1 l2 head2 len2) = []) := by show _ = _; unfold readsV; rw [if_neg (fun h => q1 (hk1.trans h.1))]
    have p1 : (k1 != 0) = true := by simpa using q1
    clear q1 hk1 hk2
    go_enter Tryd.func21, Tryd.ntmps21
    go_upto_region 1 with (fail)
    rw [← hw3]
    clear hw3
    go_wp2_with (go_at_call 39; refine (to_after (HC1.out _ E0.out)).mono ?_; clear HC1; rintro e w' ⟨y, rfl, rfl⟩)
    go_ret
    exact ReadsRet.nil (etr E0.out y.is) HV.out
  by_cases q2 : k2 = 0
  case neg =>
    have HV : Hid ((readsV L.els L.jts L.bals l1 head1 len1 l2 head2 len2) = []) := by show _ = _; unfold readsV; rw [if_neg (fun h => q2 (hk2.trans h.2))]
    have p1 : (k1 != 0) = false := by simpa using q1
    have p2 : (k2 != 0) = true := by simpa using q2
    clear q1 q2 hk1 hk2
    go_enter Tryd.func21, Tryd.ntmps21
    go_upto_region 1 with (fail)
    rw [← hw3]
    clear hw3
    go_wp2_with (first | (go_at_call 39; refine (to_after (HC1.out _ E0.out)).mono ?_; clear HC1; rintro e w' ⟨y, rfl, rfl⟩) | (go_at_call 39; refine (in_after _ (HC2.out _ (etr E0.out (After.is _)))).mono ?_; rintro e w' ⟨y, rfl, rfl⟩))
    go_ret
    exact ReadsRet.nil (etr E0.out (After.is _)) HV.out
  subst q1 q2
  replace hk1 := hk1.symm
  replace hk2 := hk2.symm
  have h01 : 0 < l1.length := (chkM_zero.1 hk1).1.1.1
  have h02 : 0 < l2.length := (chkM_zero.1 hk2).1.1.1
  have HWY : Hid (Sg.Way L.els L.jts l2) := (chkM_zero.1 hk2).1.1
  have HIN : Hid (WayIn L.els l2) := way_in (chkM_zero.1 hk2).1.1
  have hh2 := (chkM_zero.1 hk2).1.2.2.2
  have HBH : Hid (0 ≤ head2 ∧ head2 ≤ 1000000) := ⟨by omega, by have := (len_bd HE.out (HIN.out _ _ (lastS_get h02))).2; omega⟩
  obtain ⟨front, hft⟩ : ∃ f, f = strV L.els l2 head2 := ⟨_, rfl⟩
  have HFT := Lib.hid hft
  have HSTR : Hid (∀ w' : World, Ext w w' → Calls Tryd.prog 52 #[.agg #[.string L.name, .slice L.aS L.secs.length L.cS, .slice L.aE L.els.length L.cE, .slice L.aJ L.jts.length L.cJ, .slice L.aG L.sgs.length L.cG, .slice L.aB L.bals.length L.cB], .agg #[.slice A2 l2.length c2, .int .i64 head2, .int .i64 len2]] w' fun e w2 => e = .returned (.int .i64 front) ∧ Below w'.heap.size w' w2) := fun w' h1 => by
    have := rstretch_any L A2 l2 c2 head2 len2 w' (HL.out.keep h1) HE.out (HR2.out.keep h1) HIN.out hm2 HBH.out
    rw [← HFT.out] at this; exact this
  have hfb : 0 ≤ front ∧ front ≤ 201000000 := by
    have h1 := sumL_bd HE.out (wayIn_take HIN.out (l2.length - 1))
    have h2 : (l2.take (l2.length - 1)).length ≤ l2.length := List.length_take_le' _ _
    have h3 := HBH.out
    rw [hft]; unfold strV; omega
  have hhd1 : 0 ≤ head1 ∧ head1 ≤ 1000000 := by
    have h1 := (chkM_zero.1 hk1).1
    have h2 := h1.2.2.2
    have h3 := (len_bd HE.out (way_in h1.1 _ _ (lastS_get h01))).2
    omega
  have HV : Hid ((readsV L.els L.jts L.bals l1 head1 len1 l2 head2 len2) = reaF front (sortP (passA L.els L.bals l1 head1 l2))) := by
    show _ = _; unfold readsV; rw [if_pos ⟨hk1, hk2⟩, ← HFT.out]
  clear hk1 hk2 hft hh2
  obtain ⟨bw, ow, s, hA1, hs, hbs, s0, s1, s2⟩ := rd_st HR1.out (Ext.refl w) (k := l1.length - 1) (by omega)
  obtain rfl : s = lastS l1 := by have := lastS_get h01; rw [hs] at this; cases this; rfl
  subst hA1
  obtain ⟨b2, o2, sz, hA2, _⟩ := rd_st HR2.out (Ext.refl w) (k := 0) h02
  subst hA2
  have n1 : IntKind.i64.wrap ((l1.length : Int) - 1) = (l1.length : Int) - 1 := IntWalk.i64_in _ (by omega)
  have n2 : ((l1.length : Int) - 1).toNat = l1.length - 1 := by omega
  have n3 : (0 : Int) ≤ (l1.length : Int) - 1 := by omega
  have n4 : (l1.length : Int) - 1 < (l1.length : Int) := by omega
  have n5 : (1 : Int) ≤ (l1.length : Int) := by omega
  have n6 : 1 ≤ l1.length := by omega
  have n7 : l1.length - 1 < l1.length := by omega
  clear hs
  obtain ⟨ls, hls⟩ : ∃ ls, ls = lastS l1 := ⟨_, rfl⟩
  have HLS := Lib.hid hls
  rw [← hls] at s0 s1 s2
  clear hls
  go_enter Tryd.func21, Tryd.ntmps21
  go_upto_region 1 with (fail)
  rw [← hw3]
  clear hw3
  go_upto_region 4 with (first | (go_at_call 39; refine (to_after (HC1.out _ E0.out)).mono ?_; clear HC1; rintro e w' ⟨y, rfl, rfl⟩) | (go_at_call 39; refine (in_after _ (HC2.out _ (etr E0.out (After.is _)))).mono ?_; rintro e w' ⟨z, rfl, rfl⟩) | (go_at_call 52; refine (in_after _ (HSTR.out _ (etr E0.out (After.is _)))).mono ?_; rintro e w' ⟨z3, rfl, rfl⟩))
  obtain ⟨w4, hw4⟩ : ∃ q, q = z3.val := ⟨_, rfl⟩
  have E4 : Hid (Ext w w4) := hw4 ▸ etr E0.out z3.is
  have LB4 : Hid (LayAt w4 w.heap.size L) := hw4 ▸ LB0.out.keep z3.is
  have B14 : Hid (BdyAt w4 (w.heap.size + 1) (some ⟨bw, ow, none⟩) l1 c1 head1 len1) := hw4 ▸ B10.out.keep z3.is
  have B24 : Hid (BdyAt w4 (w.heap.size + 1 + 1) (some ⟨b2, o2, none⟩) l2 c2 head2 len2) := hw4 ▸ B20.out.keep z3.is
  rw [← hw4]
  clear hw4 z3 z y LB0 B10 B20 l0 a0 a1 a2 a3 a4 a5 g10 g11 g12 g13 g20 g21 g22 g23 HC2 HSTR
  obtain ⟨g10, g11, g12, g13⟩ := bdyAt_cells B14.out
  have t0 := lt_keep hbs E4.out
  have t1 := cell_keep hbs E4.out s0
  have t2 := cell_keep hbs E4.out s1
  have t3 := cell_keep hbs E4.out s2
  obtain ⟨w5, hw5⟩ : ∃ q, q = w4.alloc (.cells #[.int .i64 ls.el, .int .i64 ls.in_, .int .i64 ls.out_] 75) := ⟨_, rfl⟩
  have EW5 : Hid (Ext w4 w5) := by rw [hw5]; exact eal (Ext.refl _) _
  have C8 : Hid (CellsAt w5 w4.heap.size (Stc ls)) := by rw [hw5]; exact CellsAt.new rfl
  go_upto_region 5 with (fail)
  rw [← hw5]
  clear hw5 t0 t1 t2 t3 s0 s1 s2 hbs g10 g11 g12 g13 n1 n2 n3 n4 n5 n6 n7
  have E5 : Hid (Ext w w5) := etr E4.out EW5.out
  have LB : Hid (LayAt w5 w.heap.size L) := LB4.out.keep EW5.out
  have B1 : Hid (BdyAt w5 (w.heap.size + 1) (some ⟨bw, ow, none⟩) l1 c1 head1 len1) := B14.out.keep EW5.out
  have B2 : Hid (BdyAt w5 (w.heap.size + 1 + 1) (some ⟨b2, o2, none⟩) l2 c2 head2 len2) := B24.out.keep EW5.out
  clear LB4 B14 B24 EW5
  go_wp2
  go_loopg [9, 10] l2.length (fun g x9 ix wr => ∃ (k : Nat) (fr : Int), ix = .int .i64 k ∧ x9 = .int .i64 fr ∧ k ≤ l2.length ∧ g = l2.length - k ∧ Hid (Ext w5 wr) ∧ Hid (fr = latI l2 ls k))
  case atStart => exact ⟨0, -1, rfl, rfl, by omega, by omega, Ext.refl _, rfl⟩
  case round =>
    obtain ⟨wi, rfl⟩ : ∃ wi : World, wi = wr := ⟨_, rfl⟩
    obtain ⟨k, fr, rfl, rfl, hk, hg, X, HFR⟩ := hrel
    have HG := Lib.hid hg
    clear hg
    obtain ⟨g20, g21, g22, g23⟩ := bdyAt_cells (B2.out.keep X.out)
    by_cases hlt : k < l2.length
    · have q0 : decide ((k : Int) < (l2.length : Int)) = true := decide_eq_true (by omega)
      obtain ⟨b2', o2', s, hA2, hs, hbs, s0, s1, s2⟩ := rd_st HR2.out (etr E5.out X.out) hlt
      cases hA2
      have C9 : Hid (CellsAt wi w4.heap.size (Stc ls)) := C8.out.keep X.out
      have u0 := C9.out.1
      have u1 := C9.out.2 0 _ rfl
      have u2 := C9.out.2 1 _ rfl
      have u3 := C9.out.2 2 _ rfl
      have HST := latI_step (s := ls) hs
      clear hs
      have key : (((s.el == ls.el) = true ∧ (s.in_ == ls.in_) = true ∧ (s.out_ == ls.out_) = true) ∧ Hid (latI l2 ls (k + 1) = (k : Int))) ∨ (((s.el == ls.el) = false ∨ ((s.el == ls.el) = true ∧ (s.in_ == ls.in_) = false) ∨ ((s.el == ls.el) = true ∧ (s.in_ == ls.in_) = true ∧ (s.out_ == ls.out_) = false)) ∧ Hid (fr = latI l2 ls (k + 1))) := by
        by_cases h0 : s.el = ls.el
        · by_cases h1 : s.in_ = ls.in_
          · by_cases h2 : s.out_ = ls.out_
            · exact .inl ⟨⟨by simpa using h0, by simpa using h1, by simpa using h2⟩, by show _ = _; rw [HST, if_pos ⟨h0, h1, h2⟩]⟩
            · exact .inr ⟨.inr (.inr ⟨by simpa using h0, by simpa using h1, by simpa using h2⟩), by show _ = _; rw [HST, if_neg (fun h => h2 h.2.2), HFR.out]⟩
          · exact .inr ⟨.inr (.inl ⟨by simpa using h0, by simpa using h1⟩), by show _ = _; rw [HST, if_neg (fun h => h1 h.2.1), HFR.out]⟩
        · exact .inr ⟨.inl (by simpa using h0), by show _ = _; rw [HST, if_neg (fun h => h0 h.1), HFR.out]⟩
      clear HST
      have q5 : k + 1 ≤ l2.length := by omega
      rcases key with ⟨⟨r1, r2, r3⟩, HN⟩ | ⟨key, HN⟩
      · go_upto_region 9 with (fail)
        refine wp_region_after (by kernel_rfl) (by kernel_rfl) ?_
        repeat (first | go_big_quiet_step (fail))
        refine wpQuiet_nil ?_
        rintro _ ⟨y9, rfl⟩
        go_wp2
        go_roundg (l2.length - (k + 1))
        case measure => have := HG.out; omega
        case rel => exact ⟨k + 1, k, by go_num, rfl, by omega, rfl, etr X.out y9.is, HN.out.symm⟩
      · rcases key with r1 | ⟨r1, r2⟩ | ⟨r1, r2, r3⟩
        all_goals
          go_upto_region 9 with (fail)
          refine wp_region_after (by kernel_rfl) (by kernel_rfl) ?_
          repeat (first | go_big_quiet_step (fail))
          refine wpQuiet_nil ?_
          rintro _ ⟨y9, rfl⟩
          go_wp2
          go_roundg (l2.length - (k + 1))
          case measure => have := HG.out; omega
          case rel => exact ⟨k + 1, fr, by go_num, rfl, by omega, rfl, etr X.out y9.is, HN.out⟩
    · have ek : k = l2.length := by omega
      subst ek
      have q0 : decide ((l2.length : Int) < (l2.length : Int)) = false := decide_eq_false (by omega)
      obtain ⟨w6, hw6⟩ : ∃ q, q = wi := ⟨_, rfl⟩
      have X6 : Hid (Ext w5 w6) := hw6 ▸ X.out
      have E6 : Hid (Ext w w6) := etr E5.out X6.out
      rw [← hw6] at g20 g21 g22 g23 ⊢
      clear hw6 X hk HG
      have HRV : Hid (linF front (sortP (fndT L.els fr head1 front L.bals l2 l2.length)) = (readsV L.els L.jts L.bals l1 head1 len1 l2 head2 len2)) := by
        show _ = _
        rw [HV.out, HFR.out, HLS.out]
        exact ref_reads HWY.out
      clear HFR
      go_wp2
      clear g20 g21 g22 g23
      go_loopg [11, 12, 13] l2.length (fun g x11 x12 ix wr => ∃ (k : Nat) (at_ : Int) (A : Option Addr) (ys : List Pas) (c : Nat), ix = .int .i64 k ∧ x12 = .int .i64 at_ ∧ x11 = .slice A ys.length c ∧ k ≤ l2.length ∧ g = l2.length - k ∧ Hid (Ext w6 wr) ∧ Hid (Rd wr A 2 Qc ys) ∧ Hid (at_ = sumL L.els (l2.take k) ∧ ys = sortP (fndT L.els fr head1 front L.bals l2 k)))
      case atStart => exact ⟨0, 0, none, [], 0, rfl, rfl, rfl, by omega, by omega, Ext.refl _, Rd.nil, rfl, rfl⟩
      case round =>
        obtain ⟨wi, rfl⟩ : ∃ wi : World, wi = wr := ⟨_, rfl⟩
        obtain ⟨k, at_, A, ys, c, rfl, rfl, rfl, hk, hg, X, HRY, H⟩ := hrel
        have HG := Lib.hid hg
        clear hg
        obtain ⟨l0, a0, a1, a2, a3, a4, a5⟩ := layAt_cells (LB.out.keep (etr X6.out X.out))
        obtain ⟨g20, g21, g22, g23⟩ := bdyAt_cells (B2.out.keep (etr X6.out X.out))
        have hyl : ys.length ≤ 12000 := by
          have h1 := congrArg List.length H.out.2
          rw [sortP_len] at h1
          have h2 := fndT_len L.els fr head1 front L.bals l2 k
          have h3 := Nat.mul_le_mul (show k ≤ 200 by omega) hbm
          omega
        by_cases hlt : k < l2.length
        · have q0 : decide ((k : Int) < (l2.length : Int)) = true := decide_eq_true (by omega)
          obtain ⟨b2', o2', s, hA2, hs, hbs, s0, s1, s2⟩ := rd_st HR2.out (etr E6.out X.out) hlt
          cases hA2
          have HS := Lib.hid hs
          obtain ⟨kE, x, hel, hx, hxe⟩ := has_at (HIN.out k s hs)
          have hxb := HE.out kE x hx
          have hkE := (List.getElem?_eq_some_iff.1 hx).1
          have hsum := sumL_bd HE.out (wayIn_take HIN.out k)
          rw [← H.out.1] at hsum
          have hkl : (l2.take k).length ≤ 200 := by rw [List.length_take]; omega
          have HLX : Hid (lenOf L.els s = x.len) := by show _ = _; unfold lenOf; rw [hxe]
          have hat : 0 ≤ at_ ∧ at_ ≤ 200000000 := by omega
          obtain ⟨P, hP⟩ : ∃ P, P = sortP (ofL L.els s at_ front L.bals) := ⟨_, rfl⟩
          have HP := Lib.hid hP
          have HOF : Hid (∀ w' : World, Ext w w' → Calls Tryd.prog 53 #[.agg #[.string L.name, .slice L.aS L.secs.length L.cS, .slice L.aE L.els.length L.cE, .slice L.aJ L.jts.length L.cJ, .slice L.aG L.sgs.length L.cG, .slice L.aB L.bals.length L.cB], .slice (some ⟨b2, o2 + k * 3, none⟩) 1 (c2 - k), .int .i64 at_, .int .i64 front] w' (LksRet w' P)) := fun w' h => by
            rw [HP.out]
            exact rof_any L b2 (o2 + k * 3) s (c2 - k) at_ front w' (HL.out.keep h) HE.out HB.out hbm (rd_one (HR2.out.keep h) HS.out) (HWY.out.step HS.out) hat
          have hPl : P.length ≤ 60 := by
            rw [hP, sortP_len]
            have := ofL_len L.els s at_ front L.bals
            omega
          have HXE := Lib.hid hx
          have hsl := fun w => sl_one b2 o2 l2.length c2 k hlt HCC.out w
          have w1 : IntKind.i64.wrap (at_ + x.len) = at_ + x.len := IntWalk.i64_in _ (by omega)
          have w2 : IntKind.i64.wrap ((k : Int) + 1) = (k : Int) + 1 := IntWalk.i64_in _ (by omega)
          have w3_ : IntKind.i64.wrap (at_ + head1) = at_ + head1 := IntWalk.i64_in _ (by omega)
          have q5 : k + 1 ≤ l2.length := by omega
          clear hs hx hxe hsum hP
          go_upto_region 16 with (fail)
          refine wp_tail_after 9 (by kernel_rfl) (by kernel_rfl) ?_
          simp only [List.take_succ_cons, List.take_zero, List.drop_succ_cons, List.drop_zero]
          repeat (first | go_big_quiet_step (fail))
          refine wpQuiet_nil ?_
          rintro _ ⟨y6, rfl⟩
          clear hsl w2 l0 a0 a1 a2 a3 a4 a5 g20 g21 g22 g23 s0 s1 s2 hbs
          go_wp2_with (go_at_call 53; refine (HOF.out _ (etr E6.out (etr X.out y6.is))).mono ?_; rintro e w9 ⟨A14, c14, rfl, hr14, hb14⟩; have HR14 := Lib.hid hr14; have X9 := Lib.hid (etr X.out (etr y6.is hb14)); have RY9 := Lib.hid (HRY.out.keep (etr y6.is hb14)); clear hr14 hb14)
          clear HOF HRY X
          go_loopg [11, 15] P.length (fun g x11 ix wj => ∃ (j : Nat) (A : Option Addr) (zs : List Pas) (c : Nat), ix = .int .i64 j ∧ x11 = .slice A zs.length c ∧ j ≤ P.length ∧ g = P.length - j ∧ Hid (Ext w9 wj) ∧ Hid (Rd wj A 2 Qc zs) ∧ Hid (zs = sortP (fndT L.els fr head1 front L.bals l2 k ++ (P.take j).filter (gtB fr head1 k at_))))
          case atStart => exact ⟨0, A, ys, c, rfl, rfl, by omega, by omega, Ext.refl _, RY9.out, by show _ = _; rw [H.out.2]; simp⟩
          case round =>
            obtain ⟨wj, rfl⟩ : ∃ wj : World, wj = wr := ⟨_, rfl⟩
            obtain ⟨j, A, zs, c, rfl, rfl, hj, hg, XJ, HRZ, HZ⟩ := hrel
            have HG2 := Lib.hid hg
            clear hg
            have EJ : Hid (Ext w5 wj) := etr X6.out (etr X9.out XJ.out)
            by_cases hlj : j < P.length
            · have q2 : decide ((j : Int) < (P.length : Int)) = true := decide_eq_true (by omega)
              have q6 : j + 1 ≤ P.length := by omega
              obtain ⟨bP, oP, p, rfl, hp, d0, d1, d2⟩ := rd_qas HR14.out XJ.out hlj
              obtain ⟨g10, g11, g12, g13⟩ := bdyAt_cells (B1.out.keep EJ.out)
              have HFT2 := Lib.hid (filt_take (q := gtB fr head1 k at_) hp)
              have hzl : zs.length ≤ 13000 := by
                have h1 := congrArg List.length HZ.out
                rw [sortP_len, List.length_append] at h1
                have h2 := fndT_len L.els fr head1 front L.bals l2 k
                have h3 := Nat.mul_le_mul (show k ≤ 200 by omega) hbm
                have h4 := List.length_filter_le (gtB fr head1 k at_) (P.take j)
                have h5 : (P.take j).length ≤ P.length := List.length_take_le' _ _
                omega
              clear hp
              have key : ((decide (fr < (k : Int)) = true ∨ (decide (fr < (k : Int)) = false ∧ ((k : Int) == fr) = true ∧ decide (at_ + head1 < p.place) = true)) ∧ Hid (gtB fr head1 k at_ p = true)) ∨ (((decide (fr < (k : Int)) = false ∧ ((k : Int) == fr) = false) ∨ (decide (fr < (k : Int)) = false ∧ ((k : Int) == fr) = true ∧ decide (at_ + head1 < p.place) = false)) ∧ Hid (gtB fr head1 k at_ p = false)) := by
                have hq : gtB fr head1 k at_ p = (decide (fr < (k : Int)) || (((k : Int) == fr) && decide (at_ + head1 < p.place))) := rfl
                cases h1 : decide (fr < (k : Int))
                · cases h2 : ((k : Int) == fr)
                  · exact .inr ⟨.inl ⟨rfl, rfl⟩, by show _ = _; rw [hq, h1, h2]; rfl⟩
                  · cases h3 : decide (at_ + head1 < p.place)
                    · exact .inr ⟨.inr ⟨rfl, rfl, rfl⟩, by show _ = _; rw [hq, h1, h2, h3]; rfl⟩
                    · exact .inl ⟨.inr ⟨rfl, rfl, rfl⟩, by show _ = _; rw [hq, h1, h2, h3]; rfl⟩
                · exact .inl ⟨.inl rfl, by show _ = _; rw [hq, h1]; rfl⟩
              rcases key with ⟨key, HQ⟩ | ⟨key, HQ⟩
              · have HN : Hid (insP p zs = sortP (fndT L.els fr head1 front L.bals l2 k ++ (P.take (j + 1)).filter (gtB fr head1 k at_))) := by
                  show _ = _
                  rw [HFT2.out, if_pos HQ.out, ← List.append_assoc, sortP_snoc, ← HZ.out]
                have HPU : Hid (∀ w' : World, Ext wj w' → Calls Tryd.prog 54 #[.slice A zs.length c, .agg #[.int .i64 p.id, .int .i64 p.place]] w' (LksRet w' (insP p zs))) := fun w' h => r51put_any A zs c p w' (HRZ.out.keep h) (by omega)
                rcases key with r1 | ⟨r1, r2, r3⟩
                all_goals
                  go_upto_region 20 with (fail)
                  refine wp_region_after (by kernel_rfl) (by kernel_rfl) ?_
                  repeat (first | go_big_quiet_step (fail))
                  refine wpQuiet_nil ?_
                  rintro _ ⟨y7, rfl⟩
                  have d1' := cell_keep d0 y7.is d1
                  have d2' := cell_keep d0 y7.is d2
                  have d0' := lt_keep d0 y7.is
                  clear d0 d1 d2 g10 g11 g12 g13
                  go_wp2_with (go_at_call 54; refine (HPU.out _ y7.is).mono ?_; rintro e w10 ⟨A9, c10, rfl, hr9, hb9⟩; have HR9 := Lib.hid hr9; have HB9 := Lib.hid hb9; clear hr9 hb9)
                  go_roundg (P.length - (j + 1))
                  case measure => have := HG2.out; omega
                  case rel => exact ⟨j + 1, A9, _, c10, by go_num, rfl, by omega, rfl, etr XJ.out (etr y7.is HB9.out), HR9.out, HN.out⟩
              · have HN : Hid (zs = sortP (fndT L.els fr head1 front L.bals l2 k ++ (P.take (j + 1)).filter (gtB fr head1 k at_))) := by
                  show _ = _
                  rw [HFT2.out, if_neg (by rw [HQ.out]; simp), ← HZ.out]
                rcases key with ⟨r1, r2⟩ | ⟨r1, r2, r3⟩
                all_goals
                  go_upto_region 20 with (fail)
                  refine wp_region_after (by kernel_rfl) (by kernel_rfl) ?_
                  repeat (first | go_big_quiet_step (fail))
                  refine wpQuiet_nil ?_
                  rintro _ ⟨y7, rfl⟩
                  go_wp2
                  go_roundg (P.length - (j + 1))
                  case measure => have := HG2.out; omega
                  case rel => exact ⟨j + 1, A, zs, c, by go_num, rfl, by omega, rfl, etr XJ.out y7.is, HRZ.out.keep y7.is, HN.out⟩
            · have q2 : decide ((j : Int) < (P.length : Int)) = false := decide_eq_false (by omega)
              have HNX : Hid (at_ + x.len = sumL L.els (l2.take (k + 1)) ∧ zs = sortP (fndT L.els fr head1 front L.bals l2 (k + 1))) := by
                refine ⟨?_, ?_⟩
                · rw [sumL_take L.els HS.out, ← H.out.1, HLX.out]
                · rw [HZ.out, List.take_of_length_le (by omega)]
                  show _ = sortP (_ ++ fndI _ _ _ _ _ _ _)
                  rw [fndI_at HS.out, ← H.out.1, ← HP.out]
              have EWJ : Hid (Ext w wj) := etr E5.out EJ.out
              obtain ⟨b2', o2', s', hA2, hs', hbs, s0, s1, s2⟩ := rd_st HR2.out EWJ.out hlt
              cases hA2
              obtain rfl : s' = s := by have := HS.out; rw [hs'] at this; cases this; rfl
              obtain ⟨l0, a0, a1, a2, a3, a4, a5⟩ := layAt_cells (LB.out.keep EJ.out)
              obtain ⟨g20, g21, g22, g23⟩ := bdyAt_cells (B2.out.keep EJ.out)
              obtain ⟨bE, oE, x', hAE, hx', hbE, e0, e1, e2, e3, e4, e5, e6⟩ := rd_el HL.out.hE EWJ.out hkE
              have hxx := HXE.out
              rw [hx'] at hxx
              cases hxx
              have i1 : (0 : Int) ≤ (kE : Int) := by omega
              have i2 : (kE : Int) < (L.els.length : Int) := by omega
              rw [hel] at s0
              rw [hAE] at a2
              clear hx' hs' hAE
              go_wp2
              refine wp_region_after (by kernel_rfl) (by kernel_rfl) ?_
              repeat (first | go_big_quiet_step (fail))
              refine wpQuiet_nil ?_
              rintro _ ⟨y8, rfl⟩
              go_wp2
              go_roundg (l2.length - (k + 1))
              case measure => have := HG.out; omega
              case rel => exact ⟨k + 1, at_ + x.len, A, zs, c, by go_num, rfl, rfl, by omega, rfl, etr X9.out (etr XJ.out y8.is), HRZ.out.keep y8.is, HNX.out⟩
        · have ek : k = l2.length := by omega
          subst ek
          have q0 : decide ((l2.length : Int) < (l2.length : Int)) = false := decide_eq_false (by omega)
          have HLF : Hid (linF front ys = (readsV L.els L.jts L.bals l1 head1 len1 l2 head2 len2)) := by show _ = _; rw [H.out.2]; exact HRV.out
          have HPB : Hid (∀ p ∈ ys, -1000000 ≤ p.place ∧ p.place ≤ front) := fun p hp => by
            rw [H.out.2] at hp
            exact fndT_bd HE.out HB.out HIN.out l2.length (Nat.le_refl _) p ((sortP_perm _).subset hp)
          have EWI : Hid (Ext w wi) := etr E6.out X.out
          obtain ⟨i1, hi1, hy0, hy1, hy2⟩ := info_parts inf_Rea
          have HI1 := Lib.hid hi1
          clear hi1 H HG hk
          go_wp2
          clear l0 a0 a1 a2 a3 a4 a5 g20 g21 g22 g23
          go_loopg [16, 17] ys.length (fun g x16 ix wq => ∃ (j : Nat) (zs : List Rea), ix = .int .i64 j ∧ j ≤ ys.length ∧ g = ys.length - j ∧ Hid (Ext wi wq) ∧ Hid (OwnL wq wi.heap.size 56 2 Rec x16 zs) ∧ Hid (zs = linF front (ys.take j)))
          case atStart => exact ⟨0, [], rfl, by omega, by omega, Ext.refl _, OwnL.nil, rfl⟩
          case round =>
            obtain ⟨wq, rfl⟩ : ∃ wq : World, wq = wr := ⟨_, rfl⟩
            obtain ⟨j, zs, rfl, hj, hg, X9, O9, HZ⟩ := hrel
            have HG2 := Lib.hid hg
            clear hg
            by_cases hlj : j < ys.length
            · have q2 : decide ((j : Int) < (ys.length : Int)) = true := decide_eq_true (by omega)
              have q6 : j + 1 ≤ ys.length := by omega
              obtain ⟨bP, oP, p, rfl, hp, d0, d1, d2⟩ := rd_qas HRY.out X9.out hlj
              have hpb := HPB.out p (List.mem_of_getElem? hp)
              have v1 : IntKind.i64.wrap (front - p.place) = front - p.place := IntWalk.i64_in _ (by omega)
              have HN : Hid (zs ++ [⟨p.id, front - p.place⟩] = linF front (ys.take (j + 1))) := by show _ = _; rw [linF_step hp, ← HZ.out]
              have hzl : zs.length ≤ ys.length := by
                have h1 := congrArg List.length HZ.out
                unfold linF at h1
                rw [List.length_map] at h1
                have h3 : (ys.take j).length ≤ ys.length := List.length_take_le' _ _
                omega
              clear hp
              go_upto_region 27 with (fail)
              refine wp_region_head 15 [0, 1, 2, 3, 4, 5, 6, 7, 8, 9, 10, 11, 12, 13] 1 (by kernel_rfl) (by kernel_rfl) (fun _ _ d _ _ h => by cases d <;> exact h) (by kernel_rfl) (by kernel_rfl) (by decide) (by kernel_rfl) rfl ?_
              repeat (refine wpE_step rfl (fun K hK => ?_); go_simp; (refine hK _ ?_; clear hK K))
              refine wpE_nil ?_
              intro z
              refine headR_ready (rs := [14]) (by kernel_rfl) (by simp) (AllH.cons (by decide) rfl (fun K hK => ?_) AllH.nil)
              go_simp
              refine hK _ _ (eal (Ext.refl _) _) (fun z2 => ?_)
              clear hK K
              refine headR_tail (by kernel_rfl) ?_
              simp only [List.drop_succ_cons, List.drop_zero]
              have XZ : Hid (Ext wq z2.val) := etr (eal z.is _) z2.is
              have CZ : Hid (CellsAt z2.val z.val.heap.size (Rec ⟨p.id, front - p.place⟩)) := CellsAt.keep (CellsAt.new rfl) z2.is
              go_wp2_with (at_builtin; refine wp_appE (u := wi) Rec_len Rec_one Tryd.underlying53 HI1.out hy0 hy1 hy2 rfl (by decide) rfl rfl rfl (O9.out.keep XZ.out) (etr X9.out XZ.out) ⟨p.id, front - p.place⟩ z.val.heap.size (by simp [go_sem]) CZ.out (by omega) (by unfold maxLen; omega) ?_; intro v1 w10 H6)
              go_roundg (ys.length - (j + 1))
              case measure => have := HG2.out; omega
              case rel => exact ⟨j + 1, _, by go_num, by omega, rfl, H6.out.2.1, H6.out.1, HN.out⟩
            · have q2 : decide ((j : Int) < (ys.length : Int)) = false := decide_eq_false (by omega)
              have HF : Hid (zs = (readsV L.els L.jts L.bals l1 head1 len1 l2 head2 len2)) := by
                show _ = _
                rw [HZ.out, List.take_of_length_le (by omega), HLF.out]
              obtain ⟨A7, c7, rfl, hr7, hm7⟩ := O9.out.rd Rec_len
              have HR7 := Lib.hid hr7
              clear hr7 hm7
              have HRT : Hid (Ending.returned (.slice A7 zs.length c7) = .returned (.slice A7 (readsV L.els L.jts L.bals l1 head1 len1 l2 head2 len2).length c7)) := by show _ = _; rw [HF.out]
              have HR6 : Hid (Rd wq A7 2 Rec (readsV L.els L.jts L.bals l1 head1 len1 l2 head2 len2)) := by rw [← HF.out]; exact HR7.out
              have EF : Hid (Ext w wq) := etr EWI.out X9.out
              go_wp2
              go_ret
              exact ⟨A7, c7, HRT.out, HR6.out, EF.out⟩
end
theorem reads51_all (L : Lay) (A1 : Option Addr) (l1 : List Stp) (c1 : Nat) (head1 len1 : Int) (A2 : Option Addr) (l2 : List Stp) (c2 : Nat) (head2 len2 : Int) (w : World) (hL : LayOk w L) (hV : LayV L)
    (hr1 : Rd w A1 3 Stc l1) (hm1 : l1.length ≤ 200) (hc1 : l1.length ≤ c1) (hr2 : Rd w A2 3 Stc l2) (hm2 : l2.length ≤ 200) (hc2 : l2.length ≤ c2) :
    Calls Tryd.prog 21 #[.agg #[.string L.name, .slice L.aS L.secs.length L.cS, .slice L.aE L.els.length L.cE, .slice L.aJ L.jts.length L.cJ, .slice L.aG L.sgs.length L.cG, .slice L.aB L.bals.length L.cB], .agg #[.slice A1 l1.length c1, .int .i64 head1, .int .i64 len1], .agg #[.slice A2 l2.length c2, .int .i64 head2, .int .i64 len2]] w (ReadsRet w (readsV L.els L.jts L.bals l1 head1 len1 l2 head2 len2)) :=
  reads51_any L A1 l1 c1 head1 len1 A2 l2 c2 head2 len2 w hL hV.els hV.bals (by have := hV.few; omega) hr1 hm1 hc1 hr2 hm2 hc2
end Go.Proofs.YticonpjkcocgeaaDoor
