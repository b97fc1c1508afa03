/- Walk of the reference's Move. Printed by movgen2.py. -/
import Derived.Test.YticonpjkcocgeaaDoorWMovA
set_option linter.unusedVariables false
set_option linter.unusedSimpArgs false
set_option maxRecDepth 100000
namespace Go.Proofs.YticonpjkcocgeaaDoor
open Go.ChangeShapes Go.WideShapes Go.ChangeAt Go.RowKit
open Sg

theorem ent_next {els : List Elm} {jts : List Jnt} {pos : List Int} {l : List Stp} {s : Stp} (h : nextS els jts pos l = some s) : entS els jts pos l = s := by
  unfold nextS at h
  unfold entS nextE
  cases hq : joinO jts ⟨(lastS l).el, (lastS l).out_⟩ with
  | none => rw [hq] at h; cases h
  | some e =>
    rw [hq] at h
    simp only at h ⊢
    split at h
    · cases h
    · unfold outV
      cases ho : outO (elAt els e.el).kind e.side (posAt pos e.el) with
      | none => rw [ho] at h; cases h
      | some o => rw [ho] at h; simpa using h
section
set_option maxHeartbeats 16000000
theorem rmove_any (L : Lay) (Ap : Option Addr) (pos : List Int) (cp : Nat) (A : Option Addr) (way : List Stp) (c : Nat) (head len d : Int) (w : World) (hL : LayOk w L) (hE : ElsOk L.els) (hJ : JtsOk L.els L.jts) (h32 : L.els.length ≤ 32) (hr : Rd w A 3 Stc way) (hc : way.length ≤ c) (hp : RdI w Ap pos) (hpm : pos.length ≤ maxLen) (hm : way.length ≤ 200) :
    Calls Tryd.prog 49 #[.agg #[.string L.name, .slice L.aS L.secs.length L.cS, .slice L.aE L.els.length L.cE, .slice L.aJ L.jts.length L.cJ, .slice L.aG L.sgs.length L.cG, .slice L.aB L.bals.length L.cB], .slice Ap pos.length cp, .agg #[.slice A way.length c, .int .i64 head, .int .i64 len], .int .i64 d] w (MovRet w len (chkM L.els L.jts way head len = 0) (moveV L.els L.jts pos len way head d)) := by
  have HL := Lib.hid hL
  have HE := Lib.hid hE
  have HJ := Lib.hid hJ
  have H32 := Lib.hid h32
  have HR := Lib.hid hr
  have HC := Lib.hid hc
  have HP := Lib.hid hp
  have HPM := Lib.hid hpm
  have HM := Lib.hid hm
  clear hL hE hJ h32 hr hp hpm hm hc
  by_cases hchk : chkM L.els L.jts way head len = 0
  case neg =>
    have HV : Hid (moveV L.els L.jts pos len way head d = ⟨way, head, 0, false⟩) := by show _ = _; unfold moveV; rw [if_neg hchk]
    obtain ⟨cv, hcv⟩ : ∃ cv, cv = chkM L.els L.jts way head len := ⟨_, rfl⟩
    rw [← hcv] at hchk
    have HCV := Lib.hid hcv
    have q1 : (cv != 0) = true := by simpa using hchk
    have q2 : (cv == 0) = false := by simpa using hchk
    have HCK : Hid (∀ (w' : World), Ext w w' → Calls Tryd.prog 39 #[.agg #[.string L.name, .slice L.aS L.secs.length L.cS, .slice L.aE L.els.length L.cE, .slice L.aJ L.jts.length L.cJ, .slice L.aG L.sgs.length L.cG, .slice L.aB L.bals.length L.cB], .agg #[.slice A way.length c, .int .i64 head, .int .i64 len]] w' fun e w2 => e = .returned (.int .i64 cv) ∧ Below w'.heap.size w' w2) := fun w' h1 => by
      have := rbchk_any L A way c head len w' (HL.out.keep h1) HE.out (HR.out.keep h1) HM.out HC.out
      rw [← HCV.out] at this; exact this
    clear hchk hcv
    go_enter Tryd.func49, Tryd.ntmps49
    go_wp2_with (go_at_call 39; refine (to_after (HCK.out _ (eal (eal (eal (Ext.refl _) _) _) _))).mono ?_; rintro e w2 ⟨y, rfl, rfl⟩; have y8 : w.heap.size + 1 + 1 < y.val.heap.size := (by have h := y.is.size; simp at h; omega))
    (try simp only [Exit.inBlock, Exit.then])
    have XY : Hid (Ext w y.val) := etr (eal (eal (eal (Ext.refl _) _) _) _) y.is
    have O8 := ((((Own.new (w := (w.alloc (.cells #[.string L.name, .slice L.aS L.secs.length L.cS, .slice L.aE L.els.length L.cE, .slice L.aJ L.jts.length L.cJ, .slice L.aG L.sgs.length L.cG, .slice L.aB L.bals.length L.cB] 28)).alloc (.cells #[.slice A way.length c, .int .i64 head, .int .i64 len] 32)) (cs := #[.slice none 0 0, .int .i64 0, .int .i64 0]) (t := 32) (b := w.heap.size + 1 + 1) (by simp)).keep y.is).set 0 (by simp) (.slice A way.length c)).set 1 (by simp) (.int .i64 head)).set 2 (by simp) (.int .i64 len)
    refine bodyPost_ret (v := .tuple #[.agg #[.slice A way.length c, .int .i64 head, .int .i64 len], .int .i64 0, .bool false]) (res_ctt (b := w.heap.size + 1 + 1) (by rfl) (by rfl) (by rfl) (by rfl) O8.cells Tryd.underlying32 szBdy) rfl ⟨A, c, fun h => by have h2 := HCV.out; rw [h] at h2; subst h2; simp at q1, by rw [HV.out], ?_, by rw [HV.out]; exact HC.out, eset (eset (eset XY.out (by omega) _ _) (by omega) _ _) (by omega) _ _⟩
    rw [HV.out]
    exact HR.out.keep (eset (eset (eset XY.out (by omega) _ _) (by omega) _ _) (by omega) _ _)
  case pos =>
    obtain ⟨i0, hi, hz0, hz1, hz2⟩ := info_parts inf_Stp
    have HII := Lib.hid hi
    clear hi
    have HV : Hid (moveV L.els L.jts pos len way head d = movV L.els L.jts pos len way head d) := by show _ = _; unfold moveV; rw [if_pos hchk]
    have hE5 : ∀ el, hasEl L.els el → 500 ≤ (elAt L.els el).len := fun el h => by
      obtain ⟨k, x, _, hx, e⟩ := has_at h
      rw [e]; exact (HE.out k x hx).2.2.1
    have HE5 := Lib.hid hE5
    have HJO : Hid (∀ e f, joinO L.jts e = some f → hasEl L.els f.el) := join_has HJ.out
    have HST := Lib.hid (movI_start (pos := pos) (d := d) hchk hE5)
    obtain ⟨D, hD⟩ : ∃ D, D = max (0 : Int) (min d 1000000) := ⟨_, rfl⟩
    obtain ⟨R, hR⟩ : ∃ R, R = movV L.els L.jts pos len way head d := ⟨_, rfl⟩
    have HI0 : Hid (MovI L.els L.jts pos len D R 2002 way head 0) := by rw [hD, hR]; exact HST.out
    have HRE := Lib.hid hR
    have HDE := Lib.hid hD
    have hmm : max (0 : Int) (min d 1000000) = D := hD.symm
    have HW0 : Hid (0 < way.length) := HI0.out.pos_
    have HTR : Hid (Trimd L.els way head len) := (chkM_zero.1 hchk).2.2
    have HLB : Hid (1 ≤ len ∧ len ≤ 1000000) := by obtain ⟨⟨_, b2, b3, _⟩, _⟩ := chkM_zero.1 hchk; exact ⟨b2, b3⟩
    have HCK : Hid (∀ (w' : World), Ext w w' → Calls Tryd.prog 39 #[.agg #[.string L.name, .slice L.aS L.secs.length L.cS, .slice L.aE L.els.length L.cE, .slice L.aJ L.jts.length L.cJ, .slice L.aG L.sgs.length L.cG, .slice L.aB L.bals.length L.cB], .agg #[.slice A way.length c, .int .i64 head, .int .i64 len]] w' fun e w2 => e = .returned (.int .i64 0) ∧ Below w'.heap.size w' w2) := fun w' h1 => by
      have := rbchk_any L A way c head len w' (HL.out.keep h1) HE.out (HR.out.keep h1) HM.out HC.out
      rw [hchk] at this; exact this
    clear hchk hE5 hR hD HST
    go_enter Tryd.func49, Tryd.ntmps49
    go_upto_region 3 with (go_at_call 39; refine (to_after (HCK.out _ (eal (eal (eal (Ext.refl _) _) _) _))).mono ?_; rintro e w2 ⟨y, rfl, rfl⟩)
    have y8 : w.heap.size + 1 + 1 < y.val.heap.size := by have h := y.is.size; simp at h; omega
    have y6 : w.heap.size + 1 < y.val.heap.size := by omega
    have XY : Hid (Ext w y.val) := etr (eal (eal (eal (Ext.refl _) _) _) _) y.is
    have LY : Hid (LayAt y.val w.heap.size L) := (CellsAt.keep (CellsAt.keep (CellsAt.new rfl) (eal (Ext.refl _) _)) (eal (Ext.refl _) _)).keep y.is
    have OY6 : Hid (Own y.val (w.heap.size + 1) [.slice A way.length c, .int .i64 head, .int .i64 len]) := ((Own.new (by simp)).alloc _).keep y.is
    have OY8 : Hid (Own y.val (w.heap.size + 1 + 1) [.slice none 0 0, .int .i64 0, .int .i64 0]) := (Own.new (by simp)).keep y.is
    have HO : Hid (OwnL (y.val.alloc (.cells #[] 75)) y.val.heap.size 75 3 Stc (.slice (some ⟨y.val.heap.size, 0, none⟩) 0 0) ([] : List Stp)) := World.ownsRow_lit y.val #[] 0 (Nat.le_refl _) (by simp) (by simp)
    have b0 := OY6.out.2.1 0 _ rfl
    go_wp2_with (at_builtin; first | (refine wp_appL (u := y.val) Stc_len Stc_one Tryd.underlying30 HII.out hz0 hz1 hz2 rfl (by decide) rfl rfl rfl HO.out (eal (Ext.refl y.val) _) way A c (by simp [go_sem]) (HR.out.keep (eal XY.out _)) (by have := HM.out; simp; omega) (by have := HM.out; simp; unfold maxLen; omega) ?_; intro v1 w1 H1; rw [List.nil_append] at H1; obtain ⟨g, cap, rfl, hg, _, hT⟩ := Tl.of_own H1.out.1 HW0.out Stc_len; have HG : Hid (w.heap.size + 3 ≤ g) := (by show w.heap.size + 3 ≤ g; omega); have HTL := Lib.hid hT; have O6 := Lib.hid (OY6.out.keep H1.out.2.1); have O8 := Lib.hid (OY8.out.keep H1.out.2.1); have L1 := Lib.hid (LY.out.keep H1.out.2.1); have X1 := Lib.hid (etr XY.out H1.out.2.1); have c0 := O6.out.2.1 0 _ rfl; have cf := O6.out.2.2 0; have cz := O6.out.1; clear hg hT H1))
    obtain ⟨w3, hw3⟩ : ∃ w3, w3 = w1.setCell ⟨w.heap.size + 1, 0, none⟩ (.slice (some ⟨g, 0, none⟩) way.length cap) := ⟨_, rfl⟩
    rw [← hw3]
    have X3 : Hid (Ext w w3) := hw3 ▸ eset X1.out (by omega) _ _
    have L3 : Hid (LayAt w3 w.heap.size L) := hw3 ▸ CellsAt.only L1.out (Only.set _ _ _ _) (by omega)
    have O3 : Hid (Own w3 (w.heap.size + 1) [.slice (some ⟨g, 0, none⟩) way.length cap, .int .i64 head, .int .i64 len]) := hw3 ▸ O6.out.set 0 (by simp) (.slice (some ⟨g, 0, none⟩) way.length cap)
    have P3 : Hid (Own w3 (w.heap.size + 1 + 1) [.slice none 0 0, .int .i64 0, .int .i64 0]) := hw3 ▸ O8.out.only (Only.set _ _ _ _) (by omega)
    have T3 : Hid (Tl w3 3 Stc g 0 cap way) := hw3 ▸ HTL.out.only (Only.set _ _ _ _) (by have := HG.out; omega)
    have hD0 : 0 ≤ D := by rw [HDE.out]; omega
    clear hw3 w1 O6 O8 L1 X1 c0 cf cz HTL hmm HCK b0 HO OY6 OY8 LY XY y6 y8
    go_loopg [11, 12] 2002 (fun gk x11 x12 wr => ∃ (l : List Stp) (hd moved left : Int) (bg off cc m n : Nat), x11 = .int .i64 left ∧ x12 = .int .i64 moved ∧ Hid (n = l.length) ∧ Hid (m ≤ gk) ∧ Hid (left = D - moved) ∧ Hid (Ext w wr) ∧ Hid (LayAt wr w.heap.size L) ∧ Hid (Own wr (w.heap.size + 1) [.slice (some ⟨bg, off, none⟩) n cc, .int .i64 hd, .int .i64 len]) ∧ Hid (Own wr (w.heap.size + 1 + 1) [.slice none 0 0, .int .i64 0, .int .i64 0]) ∧ Hid (Tl wr 3 Stc bg off cc l) ∧ Hid (w.heap.size + 3 ≤ bg) ∧ Hid (MovI L.els L.jts pos len D R m l hd moved) ∧ Hid (0 < left ∨ Trimd L.els l hd len))
    case atStart => exact ⟨way, head, 0, D, g, 0, cap, 2002, way.length, rfl, rfl, rfl, Nat.le_refl _, by show D = D - 0; omega, X3.out, L3.out, O3.out, P3.out, T3.out, HG.out, HI0.out, .inr HTR.out⟩
    case round =>
      obtain ⟨l, hd, moved, left, bg, off, cc, m, n, rfl, rfl, HN, HMS, HLE, EX, LA, OB, PB, TL, HBG, MI, HTD⟩ := hrel
      clear X3 L3 O3 P3 T3 HG HI0 HW0 HTR
      have HPOS : Hid (0 < l.length) := MI.out.pos_
      have HIN : Hid (WayIn L.els l) := way_in MI.out.way
      have HL64 : Hid (l.length ≤ 64) := MI.out.way.2.1
      have HLM : Hid (l.length ≤ maxLen) := by have := HL64.out; show _ ≤ _; unfold maxLen; omega
      obtain ⟨l0, a0, a1, a2, a3, a4, a5⟩ := layAt_cells LA.out
      have b0 := OB.out.2.1 0 _ rfl
      have b1 := OB.out.2.1 1 _ rfl
      have b2 := OB.out.2.1 2 _ rfl
      have bf0 := OB.out.2.2 0
      have bf1 := OB.out.2.2 1
      have bf2 := OB.out.2.2 2
      have bz := OB.out.1
      have p0 := PB.out.2.1 0 _ rfl
      have p1 := PB.out.2.1 1 _ rfl
      have p2 := PB.out.2.1 2 _ rfl
      have pf0 := PB.out.2.2 0
      have pf1 := PB.out.2.2 1
      have pf2 := PB.out.2.2 2
      have pz := PB.out.1
      have HNE : Hid (bg ≠ w.heap.size + 1) := by have := HBG.out; show _ ≠ _; omega
      have HNF : Hid (bg ≠ w.heap.size + 1 + 1) := by have := HBG.out; show _ ≠ _; omega
      by_cases k1 : 0 < left
      · have q1 : decide (0 < left) = true := decide_eq_true k1
        have hmd : moved < D := by have := HLE.out; omega
        have hlast := (MI.out.way.step (lastS_get HPOS.out)).1
        obtain ⟨kE, x, hel, hx, hxe⟩ := has_at hlast
        have hxb := HE.out kE x hx
        have hll : lenOf L.els (lastS l) = x.len := by unfold lenOf; rw [hxe]
        have HLL := Lib.hid hll
        have hI0 := MI.out.h0
        have hI1 := MI.out.h1
        have hI2 := MI.out.m0
        have hI3 := MI.out.m1
        rw [hll] at hI1
        have hDm : D ≤ 1000000 := by rw [HDE.out]; omega
        have hlb := hxb.2.2.2.1
        have hlc := hxb.2.2.1
        have HLONG : Hid (∀ w' : World, Ext w w' → Calls Tryd.prog 68 #[.agg #[.string L.name, .slice L.aS L.secs.length L.cS, .slice L.aE L.els.length L.cE, .slice L.aJ L.jts.length L.cJ, .slice L.aG L.sgs.length L.cG, .slice L.aB L.bals.length L.cB], .agg #[.int .i64 (kE : Int), .int .i64 (lastS l).in_, .int .i64 (lastS l).out_]] w' fun e w2 => e = .returned (.int .i64 x.len) ∧ Below w'.heap.size w' w2) := fun w' h' => by
          have := rlong_any L (lastS l) w' (HL.out.keep h') hlast
          rw [hel, hll] at this; exact this
        obtain ⟨bw', ow', s, hA', hs, hbs, s0, s1, s2⟩ := rd_st TL.out.rd (Ext.refl wr) (k := l.length - 1) (by have := HPOS.out; omega)
        cases hA'
        obtain rfl : s = lastS l := by have := lastS_get HPOS.out; rw [hs] at this; cases this; rfl
        rw [hel] at s0
        rw [← HN.out] at s0 s1 s2
        have hn1 : 1 ≤ n := by rw [HN.out]; exact HPOS.out
        have hn64 : n ≤ 64 := by rw [HN.out]; exact HL64.out
        have n1 : IntKind.i64.wrap ((n : Int) - 1) = (n : Int) - 1 := IntWalk.i64_in _ (by omega)
        have n2 : ((n : Int) - 1).toNat = n - 1 := by omega
        have n3 : (0 : Int) ≤ (n : Int) - 1 := by omega
        have n4 : (n : Int) - 1 < (n : Int) := by omega
        have n5 : (1 : Int) ≤ (n : Int) := by omega
        have n7 : n - 1 < n := by omega
        have n8 : IntKind.i64.wrap (x.len - hd) = x.len - hd := IntWalk.i64_in _ (by omega)
        generalize hi9 : (lastS l).in_ = li at HLONG s1
        generalize ho9 : (lastS l).out_ = lo at HLONG s2
        obtain ⟨k, hk⟩ : ∃ k, k = min left (x.len - hd) := ⟨_, rfl⟩
        have hkk : min left (x.len - hd) = k := hk.symm
        have hle := HLE.out
        obtain ⟨r1, r2, r3, r4, r5⟩ := MI.out.round hmd (k := k) (by rw [HLL.out, ← hle]; exact hk)
        rw [← hle] at r1 r2 r4
        have R1 := Lib.hid r1
        have R2 := Lib.hid r2
        rw [hll] at r5
        have m1 : IntKind.i64.wrap (hd + k) = hd + k := IntWalk.i64_in _ (by omega)
        have m2 : IntKind.i64.wrap (moved + k) = moved + k := IntWalk.i64_in _ (by omega)
        have m3 : IntKind.i64.wrap (left - k) = left - k := IntWalk.i64_in _ (by omega)
        have HHD : Hid (0 ≤ hd + k ∧ hd + k ≤ 1000000) := ⟨by omega, by omega⟩
        clear r1 r2 hle hk hi9 ho9 hs hel hx hxe hll hlast hxb
        go_upto_region 7 with (fail)
        refine wp_region_after (by kernel_rfl) (by kernel_rfl) ?_
        repeat (first | go_big_quiet_step ((first | (go_at_call 68; exact after_call _ (HLONG.out _ (etr EX.out (After.is _)))))))
        refine wpQuiet_nil ?_
        rintro _ ⟨y, rfl⟩
        have EX2 : Hid (Ext w y.val) := etr EX.out y.is
        have LA2 : Hid (LayAt y.val w.heap.size L) := LA.out.keep y.is
        have OB2 := Lib.hid (OB.out.keep y.is)
        have PB2 := Lib.hid (PB.out.keep y.is)
        have TL2 : Hid (Tl y.val 3 Stc bg off cc l) := TL.out.keep y.is
        have y6 := lt_keep bz y.is
        have y8 := lt_keep pz y.is
        have y4 := lt_keep l0 y.is
        obtain ⟨tn, htn⟩ : ∃ tn, tn = trimN L.els l (hd + k) len := ⟨_, rfl⟩
        obtain ⟨tl, htl⟩ : ∃ tl, tl = trimB L.els l (hd + k) len := ⟨_, rfl⟩
        have hdr := trim_drop L.els l (hd + k) len
        rw [← htn, ← htl] at hdr
        have htn2 : tn ≤ l.length := by rw [htn]; exact trimN_le _ _ _ _
        have htll : l.length - tn = tl.length := by rw [← hdr, List.length_drop]
        have HTL0 : Hid (0 < tl.length) := by show 0 < _; rw [htl]; exact trimB_pos HPOS.out
        have HTL64 : Hid (tl.length ≤ 64) := by have := HL64.out; show _ ≤ _; omega
        have HTI : Hid (WayIn L.els tl) := by rw [← hdr]; exact wayIn_drop HIN.out _
        obtain ⟨off2, ho2⟩ : ∃ o, o = off + tn * 3 := ⟨_, rfl⟩
        obtain ⟨cc2, hc2⟩ : ∃ o, o = cc - tn := ⟨_, rfl⟩
        have HTRIM : Hid (∀ w' : World, Tl w' 3 Stc bg off cc l → Tl w' 3 Stc bg off2 cc2 tl) := fun w' h => by
          have := h.drop tn htn2
          rw [hdr, ← ho2, ← hc2] at this; exact this
        have HREM : Hid (∀ w' : World, Ext w w' → Tl w' 3 Stc bg off cc l → Calls Tryd.prog 76 #[.agg #[.string L.name, .slice L.aS L.secs.length L.cS, .slice L.aE L.els.length L.cE, .slice L.aJ L.jts.length L.cJ, .slice L.aG L.sgs.length L.cG, .slice L.aB L.bals.length L.cB], .agg #[.slice (some ⟨bg, off, none⟩) n cc, .int .i64 (hd + k), .int .i64 len]] w' fun e w2 => e = .returned (.agg #[.slice (some ⟨bg, off2, none⟩) tl.length cc2, .int .i64 (hd + k), .int .i64 len]) ∧ Below w'.heap.size w' w2) := fun w' h1 h2 => by
          have := rtrim_any L bg off l cc (hd + k) len w' (HL.out.keep h1) HE.out h2.rd HIN.out (by have := HL64.out; omega) HPOS.out h2.le HHD.out HLB.out
          rw [← htn, htll, ← ho2, ← hc2, ← HN.out] at this; exact this
        have HTLE := Lib.hid htl
        clear htn htl hdr htn2 htll ho2 hc2 n1 n2 n3 n4 n5 n7 n8 s0 s1 s2 hkk
        go_upto_region 12 with (go_at_call 76; refine (to_after (HREM.out _ (eset EX2.out (by omega) _ _) (TL2.out.only (Only.set _ _ _ _) HNE.out))).mono ?_; rintro e w' ⟨z, rfl, rfl⟩; have z6 : w.heap.size + 1 < z.val.heap.size := (by have h := z.is.size; simp at h; omega); have z8 : w.heap.size + 1 + 1 < z.val.heap.size := (by have h := z.is.size; simp at h; omega))
        obtain ⟨w5, hw5⟩ : ∃ w5, w5 = ((z.val.setCell ⟨w.heap.size + 1, 0, none⟩ (.slice (some ⟨bg, off2, none⟩) tl.length cc2)).setCell ⟨w.heap.size + 1, 1, none⟩ (.int .i64 (hd + k))).setCell ⟨w.heap.size + 1, 2, none⟩ (.int .i64 len) := ⟨_, rfl⟩
        rw [← hw5]
        have X5 : Hid (Ext w w5) := hw5 ▸ eset (eset (eset (etr (eset EX2.out (by omega) _ _) z.is) (by omega) _ _) (by omega) _ _) (by omega) _ _
        have L5 : Hid (LayAt w5 w.heap.size L) := hw5 ▸ ((((LA2.out.only (Only.set _ _ _ _) (by omega)).keep z.is).only (Only.set _ _ _ _) (by omega)).only (Only.set _ _ _ _) (by omega)).only (Only.set _ _ _ _) (by omega)
        have O5 : Hid (Own w5 (w.heap.size + 1) [.slice (some ⟨bg, off2, none⟩) tl.length cc2, .int .i64 (hd + k), .int .i64 len]) := hw5 ▸ ((((OB2.out.set 1 (by simp) (.int .i64 (hd + k))).keep z.is).set 0 (by simp) (.slice (some ⟨bg, off2, none⟩) tl.length cc2)).set 1 (by simp) (.int .i64 (hd + k))).set 2 (by simp) (.int .i64 len)
        have P5 : Hid (Own w5 (w.heap.size + 1 + 1) [.slice none 0 0, .int .i64 0, .int .i64 0]) := hw5 ▸ ((((PB2.out.only (Only.set _ _ _ _) (by omega)).keep z.is).only (Only.set _ _ _ _) (by omega)).only (Only.set _ _ _ _) (by omega)).only (Only.set _ _ _ _) (by omega)
        have T5 : Hid (Tl w5 3 Stc bg off2 cc2 tl) := hw5 ▸ HTRIM.out _ (((((TL2.out.only (Only.set _ _ _ _) HNE.out).keep z.is).only (Only.set _ _ _ _) HNE.out).only (Only.set _ _ _ _) HNE.out).only (Only.set _ _ _ _) HNE.out)
        clear hw5 z6 z8 z y6 y8 y4 EX2 LA2 OB2 PB2 TL2 HREM HTRIM l0 a0 a1 a2 a3 a4 a5 b0 b1 b2 bf0 bf1 bf2 bz p0 p1 p2 pf0 pf1 pf2 pz HLONG
        obtain ⟨l0, a0, a1, a2, a3, a4, a5⟩ := layAt_cells L5.out
        have b0 := O5.out.2.1 0 _ rfl
        have b1 := O5.out.2.1 1 _ rfl
        have b2 := O5.out.2.1 2 _ rfl
        have bf0 := O5.out.2.2 0
        have bf1 := O5.out.2.2 1
        have bz := O5.out.1
        have p0 := P5.out.2.1 0 _ rfl
        have p1 := P5.out.2.1 1 _ rfl
        have p2 := P5.out.2.1 2 _ rfl
        have pf0 := P5.out.2.2 0
        have pf1 := P5.out.2.2 1
        have pf2 := P5.out.2.2 2
        have pz := P5.out.1
        by_cases k2 : left - k = 0
        · have q2 : ((left - k) == 0) = true := by simpa using k2
          have HF := Lib.hid (R1.out k2)
          have HRR : Hid (moveV L.els L.jts pos len way head d = ⟨tl, hd + k, moved + k, false⟩) := by show _ = _; rw [HV.out, ← HRE.out, HF.out, ← HTLE.out]
          clear k2
          go_wp2
          (try simp only [Exit.inBlock, Exit.then])
          have O9 := Lib.hid (((P5.out.set 0 (by simp) (.slice (some ⟨bg, off2, none⟩) tl.length cc2)).set 1 (by simp) (.int .i64 (hd + k))).set 2 (by simp) (.int .i64 len))
          have T9 := Lib.hid (((T5.out.only (Only.set _ (w.heap.size + 1 + 1) 0 (.slice (some ⟨bg, off2, none⟩) tl.length cc2)) HNF.out).only (Only.set _ (w.heap.size + 1 + 1) 1 (.int .i64 (hd + k))) HNF.out).only (Only.set _ (w.heap.size + 1 + 1) 2 (.int .i64 len)) HNF.out)
          refine bodyPost_ret (v := .tuple #[.agg #[.slice (some ⟨bg, off2, none⟩) tl.length cc2, .int .i64 (hd + k), .int .i64 len], .int .i64 (moved + k), .bool false]) (res_ctt (b := w.heap.size + 1 + 1) (by rfl) (by rfl) (by rfl) (by rfl) O9.out.cells Tryd.underlying32 szBdy) rfl ⟨some ⟨bg, off2, none⟩, cc2, fun _ a e => by cases e; have := HBG.out; show w.heap.size ≤ bg; omega, by rw [HRR.out], ?_, by rw [HRR.out]; exact T9.out.le, eset (eset (eset X5.out (by omega) _ _) (by omega) _ _) (by omega) _ _⟩
          rw [HRR.out]
          exact T9.out.rd
        · have q2 : ((left - k) == 0) = false := by simpa using k2
          obtain ⟨hmd2, hhe, hMI⟩ := R2.out k2
          have HHE := Lib.hid hhe
          have HMD := Lib.hid hmd2
          have MI2 := Lib.hid hMI
          obtain ⟨sa, hsa⟩ : ∃ sa, sa = entS L.els L.jts pos tl := ⟨_, rfl⟩
          obtain ⟨ab, hab⟩ : ∃ ab, ab = aheadB L.els L.jts pos tl := ⟨_, rfl⟩
          have HAH : Hid (∀ w' : World, Ext w w' → Rd w' (some ⟨bg, off2, none⟩) 3 Stc tl → Calls Tryd.prog 77 #[.agg #[.string L.name, .slice L.aS L.secs.length L.cS, .slice L.aE L.els.length L.cE, .slice L.aJ L.jts.length L.cJ, .slice L.aG L.sgs.length L.cG, .slice L.aB L.bals.length L.cB], .slice Ap pos.length cp, .agg #[.slice (some ⟨bg, off2, none⟩) tl.length cc2, .int .i64 (hd + k), .int .i64 len]] w' fun r w2 => r = .returned (.tuple #[.agg #[.int .i64 sa.el, .int .i64 sa.in_, .int .i64 sa.out_], .bool ab]) ∧ Below w'.heap.size w' w2) := fun w' h1 h2 => by
            have := enter_any L Ap pos cp (some ⟨bg, off2, none⟩) tl cc2 (hd + k) len w' (HL.out.keep h1) HE.out HJ.out h2 (HP.out.below h1 (Nat.le_refl _)) HPM.out (by have := HTL64.out; omega) HTL0.out
            rw [← hsa, ← hab] at this; exact this
          have HSA := Lib.hid hsa
          have HAB := Lib.hid hab
          have HL2 : Hid (0 < left - k) := by show 0 < _; omega
          have HLE2 : Hid (left - k = D - (moved + k)) := by have := HLE.out; show _ = _; omega
          clear hsa hab k1 k2 hlb hlc hI0 hI1 hI2 hI3 hmd2 hhe hMI hmd r3 r4 r5 m1 m2 m3
          cases hns : nextS L.els L.jts pos tl with
          | none =>
            obtain rfl : ab = false := by rw [HAB.out]; exact (aheadB_none hns).2.symm
            have HF := Lib.hid (MI2.out.stop HMD.out HHE.out (by rw [← HTLE.out]; exact hns))
            have HRR : Hid (moveV L.els L.jts pos len way head d = ⟨tl, hd + k, moved + k, true⟩) := by show _ = _; rw [HV.out, ← HRE.out, HF.out, ← HTLE.out]
            clear hns
            go_wp2_with (go_at_call 77; refine (to_after (HAH.out _ X5.out T5.out.rd)).mono ?_; rintro e w' ⟨u, rfl, rfl⟩; have u4 := lt_keep l0 u.is; have u6 := lt_keep bz u.is; have u8 := lt_keep pz u.is)
            (try simp only [Exit.inBlock, Exit.then])
            have O9 := Lib.hid ((((P5.out.keep u.is).set 0 (by simp) (.slice (some ⟨bg, off2, none⟩) tl.length cc2)).set 1 (by simp) (.int .i64 (hd + k))).set 2 (by simp) (.int .i64 len))
            have T9 := Lib.hid ((((T5.out.keep u.is).only (Only.set _ (w.heap.size + 1 + 1) 0 (.slice (some ⟨bg, off2, none⟩) tl.length cc2)) HNF.out).only (Only.set _ (w.heap.size + 1 + 1) 1 (.int .i64 (hd + k))) HNF.out).only (Only.set _ (w.heap.size + 1 + 1) 2 (.int .i64 len)) HNF.out)
            refine bodyPost_ret (v := .tuple #[.agg #[.slice (some ⟨bg, off2, none⟩) tl.length cc2, .int .i64 (hd + k), .int .i64 len], .int .i64 (moved + k), .bool true]) (res_ctt (b := w.heap.size + 1 + 1) (by rfl) (by rfl) (by rfl) (by rfl) (O9.out.alloc (.cells #[.int .i64 sa.el, .int .i64 sa.in_, .int .i64 sa.out_] 75)).cells Tryd.underlying32 szBdy) rfl ⟨some ⟨bg, off2, none⟩, cc2, fun _ a e => by cases e; have := HBG.out; show w.heap.size ≤ bg; omega, by rw [HRR.out], ?_, by rw [HRR.out]; exact T9.out.le, eal (eset (eset (eset (etr X5.out u.is) (by omega) _ _) (by omega) _ _) (by omega) _ _) _⟩
            rw [HRR.out]
            exact (T9.out.keep (eal (Ext.refl _) (.cells #[.int .i64 sa.el, .int .i64 sa.in_, .int .i64 sa.out_] 75))).rd
          | some s =>
            have hn2 := aheadB_some hns
            obtain rfl : ab = true := by rw [HAB.out]; exact hn2.2.symm
            obtain rfl : sa = s := by rw [HSA.out]; exact ent_next hns
            obtain ⟨m', hm', hI⟩ := MI2.out.next HE5.out HJO.out H32.out HMD.out HHE.out (by rw [← HTLE.out]; exact hns)
            have HI2 : Hid (MovI L.els L.jts pos len D R m' (tl ++ [sa]) 0 (moved + k)) := by rw [HTLE.out]; exact hI
            have HMS3 : Hid (m' < gk) := by have := HMS.out; show _ < _; omega
            clear hns hn2 hm' hI
            go_wp2_with (first | (go_at_call 77; refine (to_after (HAH.out _ X5.out T5.out.rd)).mono ?_; rintro e w' ⟨u, rfl, rfl⟩; have u4 := lt_keep l0 u.is; have u6 := lt_keep bz u.is; have u8 := lt_keep pz u.is; have XU : Hid (Ext w u.val) := etr X5.out u.is; have TU := Lib.hid (T5.out.keep u.is); have OU := Lib.hid (O5.out.keep u.is); have PU := Lib.hid (P5.out.keep u.is); have LU : Hid (LayAt u.val w.heap.size L) := L5.out.keep u.is) | (at_builtin; refine wp_appT (u := w) (g := bg) (off := off2) (cap := cc2) (xs := tl) Stc_len Stc_one Tryd.underlying30 HII.out hz0 hz1 hz2 rfl (by decide) rfl rfl ((TU.out.keep (eal (eal (Ext.refl _) _) _))) (by simp [go_sem]) (by have := HBG.out; omega) (eal (eal XU.out _) _) sa (u.val.heap.size + 1) (by simp [go_sem]) (CellsAt.new (by simp)) (by have := HTL64.out; omega) (by have := HTL64.out; unfold maxLen; omega) ?_; intro g' off' cap' w' HA; have o8 := (((OU.out.alloc _).alloc _).grownT HA.out.2.2.2.1 (by have := HNE.out; omega)); have d0 := o8.2.1 0 _ rfl; have d1 := o8.2.1 1 _ rfl; have d2 := o8.2.1 2 _ rfl; have df0 := o8.2.2 0; have df1 := o8.2.2 1; have dz := o8.1; have HO8 := Lib.hid o8; clear o8))
            go_roundg m'
            case measure => exact HMS3.out
            case rel =>
              have hne2 : g' ≠ w.heap.size + 1 := by
                have h1 := HNE.out
                rcases HA.out.2.2.2.2 with h | h
                · omega
                · simp at h; omega
              have hbg := HBG.out
              refine ⟨tl ++ [sa], 0, moved + k, left - k, g', off', cap', m', tl.length + 1, rfl, rfl, by show _ = _; simp, Nat.le_refl _, HLE2.out, eset (eset HA.out.2.2.1 (by omega) _ _) (by omega) _ _, ?_, (HO8.out.set 0 (by simp) _).set 1 (by simp) _, ?_, (HA.out.2.1.only (Only.set _ _ _ _) hne2).only (Only.set _ _ _ _) hne2, ?_, HI2.out, .inl HL2.out⟩
              · have := (CellsAt.alloc (CellsAt.alloc LU.out (.cells #[.int .i64 sa.el, .int .i64 sa.in_, .int .i64 sa.out_] 75)) (.cells #[.int .i64 sa.el, .int .i64 sa.in_, .int .i64 sa.out_] 75)).grown HA.out.2.2.2.1 (by intro e; injection e with e; omega)
                exact (this.only (Only.set _ _ _ _) (by omega)).only (Only.set _ _ _ _) (by omega)
              · have := (((PU.out.alloc (.cells #[.int .i64 sa.el, .int .i64 sa.in_, .int .i64 sa.out_] 75)).alloc (.cells #[.int .i64 sa.el, .int .i64 sa.in_, .int .i64 sa.out_] 75)).grownT HA.out.2.2.2.1 (by have := HNF.out; omega))
                exact (this.only (Only.set _ _ _ _) (by omega)).only (Only.set _ _ _ _) (by omega)
              · show w.heap.size + 3 ≤ g'
                rcases HA.out.2.2.2.2 with h | h
                · omega
                · simp at h; omega
      · have q1 : decide (0 < left) = false := decide_eq_false k1
        have hnm : ¬ moved < D := by have := HLE.out; omega
        have HF := Lib.hid (MI.out.nil hnm (HTD.out.resolve_left k1))
        have HRR : Hid (moveV L.els L.jts pos len way head d = ⟨l, hd, moved, false⟩) := by show _ = _; rw [HV.out, ← HRE.out, HF.out]
        go_wp2
        (try simp only [Exit.inBlock, Exit.then])
        have O9 := Lib.hid (((PB.out.set 0 (by simp) (.slice (some ⟨bg, off, none⟩) n cc)).set 1 (by simp) (.int .i64 hd)).set 2 (by simp) (.int .i64 len))
        refine bodyPost_ret (v := .tuple #[.agg #[.slice (some ⟨bg, off, none⟩) n cc, .int .i64 hd, .int .i64 len], .int .i64 moved, .bool false]) (res_ctt (b := w.heap.size + 1 + 1) (by rfl) (by rfl) (by rfl) (by rfl) O9.out.cells Tryd.underlying32 szBdy) rfl ⟨some ⟨bg, off, none⟩, cc, fun _ a e => by cases e; have := HBG.out; show w.heap.size ≤ bg; omega, by rw [HRR.out, HN.out], ?_, by rw [HRR.out]; exact TL.out.le, eset (eset (eset EX.out (by omega) _ _) (by omega) _ _) (by omega) _ _⟩
        rw [HRR.out]
        exact (((TL.out.only (Only.set _ _ _ _) HNF.out).only (Only.set _ _ _ _) HNF.out).only (Only.set _ _ _ _) HNF.out).rd
end
end Go.Proofs.YticonpjkcocgeaaDoor
