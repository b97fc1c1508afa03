/- Walks of signallingref43.Part and Apply. -/
import Derived.Test.YtacnfchoemndeaaDoorWLow
import Derived.Test.YtacnfchoemndeaaDoorWRstA
import Derived.Test.YtacnfchoemndeaaDoorLibSeg2
set_option linter.unusedVariables false
set_option linter.unusedSimpArgs false
set_option maxRecDepth 100000
namespace Go.Proofs.YtacnfchoemndeaaDoor
open Go.ChangeShapes Go.WideShapes Go.ChangeAt Go.RowKit
open Sg

theorem lt_up {a b : Nat} (h : a < b) : a < b + 1 := by omega
theorem ret_ii {a b c d : Int} (h : a = b) (g : c = d) : Ending.returned (.tuple #[.int .i64 a, .int .i64 c]) = .returned (.tuple #[.int .i64 b, .int .i64 d]) := by rw [h, g]
set_option maxHeartbeats 8000000 in
theorem rpart_any (L : Lay) (s : Stp) (c1 : Int) (r : Rst) (w : World) (hL : LayOk w L) (hE : ElsOk L.els) (hs : hasEl L.els s.el) (hb3 : -1073741824 ≤ c1) (hb4 : c1 ≤ 1073741824 + 64000000) (hok : OkR L.els r) :
    Calls Tryd.prog 39 #[.agg #[.string L.name, .slice L.aS L.secs.length L.cS, .slice L.aE L.els.length L.cE, .slice L.aJ L.jts.length L.cJ, .slice L.aG L.sgs.length L.cG, .slice L.aB L.bals.length L.cB], .agg #[.int .i64 s.el, .int .i64 s.in_, .int .i64 s.out_], .int .i64 c1, .agg #[.int .i64 r.id, .int .i64 r.el, .int .i64 r.from_, .int .i64 r.to_, .int .i64 r.speed, .bool r.act]] w fun e w' => e = .returned (.tuple #[.int .i64 (partA L.els s c1 r), .int .i64 (partZ L.els s c1 r)]) ∧ Below w.heap.size w w' := by
  have HL := Lib.hid hL
  obtain ⟨o1, o2, o3, o4, o5, o6, o7, o8, o9⟩ := hok
  have hrl : (elAt L.els r.el).len ≤ 1000000 := by
    obtain ⟨j, x, _, hx, e⟩ := has_at (els := L.els) (el := r.el) ⟨o3, o4⟩
    have := hE j x hx
    rw [e]; exact this.2.2.2
  have o10 : r.to_ ≤ 1000000 := by omega
  clear o1 o2 o3 o4 o7 hrl
  obtain ⟨kE, x, hel, hx, hxe⟩ := has_at hs
  have hXB := hE kE x hx
  have hx1 := hXB.2.2.1
  have hx2 := hXB.2.2.2
  have hmE := HL.out.lE
  unfold maxLen at hmE
  obtain ⟨bE, oE, x', hA, hx', hbE, e0, e1, e2, e3, e4, e5, e6⟩ := rd_el HL.out.hE (Ext.refl w) (List.getElem?_eq_some_iff.1 hx).1
  rw [hx] at hx'
  cases hx'
  have hkE := (List.getElem?_eq_some_iff.1 hx).1
  have HXE := Lib.hid hxe
  obtain ⟨sel, sin, sout⟩ := s
  obtain rfl : sel = (kE : Int) := hel
  simp only [] at HXE
  have hbE1 : bE < w.heap.size + 1 := by omega
  have hbE2 : bE < w.heap.size + 1 + 1 := by omega
  have hbE3 : bE < w.heap.size + 1 + 1 + 1 := by omega
  have w1 : IntKind.i64.wrap (c1 + x.len) = c1 + x.len := IntWalk.i64_in _ (by omega)
  have w2 : IntKind.i64.wrap (c1 + x.len - r.to_) = c1 + x.len - r.to_ := IntWalk.i64_in _ (by omega)
  have w3 : IntKind.i64.wrap (c1 + x.len - r.from_) = c1 + x.len - r.from_ := IntWalk.i64_in _ (by omega)
  have w4 : IntKind.i64.wrap (c1 + r.to_) = c1 + r.to_ := IntWalk.i64_in _ (by omega)
  have w5 : IntKind.i64.wrap (c1 + r.from_) = c1 + r.from_ := IntWalk.i64_in _ (by omega)
  clear hx hxe hXB hs hL hE
  rw [hA]
  clear hA
  rcases fwd_key L.els ⟨kE, sin, sout⟩ x HXE.out with ⟨hf, hkey⟩ | ⟨hf, hkey⟩
  · have HP : Hid (partA L.els ⟨kE, sin, sout⟩ c1 r = c1 + r.from_ ∧ partZ L.els ⟨kE, sin, sout⟩ c1 r = c1 + r.to_) := by
      constructor
      · unfold partA; rw [if_pos hf]
      · unfold partZ; rw [if_pos hf]
    clear hf
    rcases hkey with k1 | ⟨k1, k2, k3⟩
    all_goals go_enter Tryd.func39, Tryd.ntmps39
    all_goals go_wp2
    all_goals refine wp_region_after (by kernel_rfl) (by kernel_rfl) ?_
    all_goals repeat (first | go_big_quiet_step (fail))
    all_goals refine wpQuiet_nil ?_
    all_goals rintro _ ⟨y, rfl⟩
    all_goals go_wp2
    all_goals go_ret2
    all_goals exact ⟨ret_ii HP.out.1.symm HP.out.2.symm, etr (eal (eal (eal (eal (Ext.refl _) _) _) _) _) y.is⟩
  · have HP : Hid (partA L.els ⟨kE, sin, sout⟩ c1 r = c1 + x.len - r.to_ ∧ partZ L.els ⟨kE, sin, sout⟩ c1 r = c1 + x.len - r.from_) := by
      constructor
      · unfold partA; rw [if_neg (by simp [hf]), HXE.out]
      · unfold partZ; rw [if_neg (by simp [hf]), HXE.out]
    clear hf
    rcases hkey with ⟨k1, k2, k3⟩ | ⟨k1, k2⟩
    all_goals go_enter Tryd.func39, Tryd.ntmps39
    all_goals go_wp2
    all_goals refine wp_region_after (by kernel_rfl) (by kernel_rfl) ?_
    all_goals repeat (first | go_big_quiet_step (fail))
    all_goals refine wpQuiet_nil ?_
    all_goals rintro _ ⟨y, rfl⟩
    all_goals go_wp2
    all_goals go_ret2
    all_goals exact ⟨ret_ii HP.out.1.symm HP.out.2.symm, etr (eal (eal (eal (eal (Ext.refl _) _) _) _) _) y.is⟩
theorem OwnL.rdc {α : Type} {w : World} {base : Nat} {e : TypeId} {k : Nat} {enc : α → List Value} {v : Value} {xs : List α} (hk : ∀ x, (enc x).length = k) (h : OwnL w base e k enc v xs) : ∃ A cap, v = .slice A xs.length cap ∧ Rd w A k enc xs ∧ xs.length ≤ maxLen ∧ xs.length ≤ cap := by
  obtain ⟨A, cap, hv, hr, hm⟩ := h.rd hk
  refine ⟨A, cap, hv, hr, hm, ?_⟩
  by_cases h0 : 0 < xs.length
  · obtain ⟨g, cap', hv', hc, _⟩ := h.form h0
    rw [hv] at hv'
    injection hv' with _ _ hcc
    omega
  · omega
noncomputable def stepQ (els : List Elm) (r : Rst) (way : List Stp) (c : Int) (j : Nat) (q : List Sgm) : List Sgm := if useR els r then lowTo els r way c j q else q
theorem stepQ_zero {els : List Elm} {r : Rst} {way : List Stp} {c : Int} {q : List Sgm} : stepQ els r way c 0 q = q := by unfold stepQ lowTo; split <;> rfl
theorem stepQ_hit {els : List Elm} {r : Rst} {way : List Stp} {c : Int} {j : Nat} {q : List Sgm} {s : Stp} (hs : way[j]? = some s) (hu : useR els r) (he : s.el = r.el) : stepQ els r way c (j + 1) q = limL (stepQ els r way c j q) (partA els s (begF els way c j) r) (partZ els s (begF els way c j) r) r.speed := by
  unfold stepQ; rw [if_pos hu, if_pos hu, lowTo_succ hs, if_pos he]
theorem stepQ_miss {els : List Elm} {r : Rst} {way : List Stp} {c : Int} {j : Nat} {q : List Sgm} {s : Stp} (hs : way[j]? = some s) (h : ¬ (useR els r ∧ s.el = r.el)) : stepQ els r way c (j + 1) q = stepQ els r way c j q := by
  unfold stepQ
  by_cases hu : useR els r
  · rw [if_pos hu, if_pos hu, lowTo_succ hs, if_neg (fun e => h ⟨hu, e⟩)]
  · rw [if_neg hu, if_neg hu]
theorem stepQ_all {els : List Elm} {r : Rst} {way : List Stp} {c : Int} {q : List Sgm} : stepQ els r way c way.length q = if useR els r then lowF els r way c q else q := by unfold stepQ lowTo; rw [List.take_length]
set_option maxHeartbeats 16000000 in
theorem rapply_any (L : Lay) (Al : Option Addr) (l : List Rst) (cl : Nat) (A : Option Addr) (way : List Stp) (c : Nat) (c0 : Int) (B : Option Addr) (p : List Sgm) (cp : Nat) (w : World) (hL : LayOk w L) (hE : ElsOk L.els) (hl : Rd w Al 6 Rsc l) (hlm : l.length ≤ maxLen)
    (hr : Rd w A 3 Stc way) (hm : way.length ≤ maxLen) (hp : Rd w B 4 Sgc p) (hpl : p.length ≤ 1000000) :
    Calls Tryd.prog 20 #[.slice Al l.length cl, .slice A way.length c, .int .i64 c0, .agg #[.string L.name, .slice L.aS L.secs.length L.cS, .slice L.aE L.els.length L.cE, .slice L.aJ L.jts.length L.cJ, .slice L.aG L.sgs.length L.cG, .slice L.aB L.bals.length L.cB], .slice B p.length cp] w fun e w' => ∃ A' cap', e = .returned (.slice A' (appL L.els L.jts l way c0 p).length cap') ∧ Rd w' A' 4 Sgc (appL L.els L.jts l way c0 p) ∧ (appL L.els L.jts l way c0 p).length ≤ 1000000 ∧ Below w.heap.size w w' := by
  obtain ⟨i0, hi, hz0, hz1, hz2⟩ := info_parts inf_Seg
  have HL := Lib.hid hL
  have HE := Lib.hid hE
  have HR := Lib.hid hr
  have HRL := Lib.hid hl
  have HP := Lib.hid hp
  have HPL := Lib.hid hpl
  have HM := Lib.hid hm
  have HII := Lib.hid hi
  clear hL hE hr hl hp hm hi
  unfold maxLen at hlm
  have E0 : Hid (Ext w (w.alloc (.cells #[.string L.name, .slice L.aS L.secs.length L.cS, .slice L.aE L.els.length L.cE, .slice L.aJ L.jts.length L.cJ, .slice L.aG L.sgs.length L.cG, .slice L.aB L.bals.length L.cB] 28))) := eal (Ext.refl _) _
  by_cases hap : ApOk L.els L.jts way c0 p
  · have HA : Hid (appL L.els L.jts l way c0 p = allF L.els way c0 l p) := by show _ = _; unfold appL; rw [if_pos hap]
    obtain ⟨v1, v2, v3, v4⟩ := hap
    have K1 : Hid (validB p = true) := validB_true.2 v1
    have K2 : Hid (wayB L.els L.jts way = true) := wayB_true.2 v2
    have HWI : Hid (WayIn L.els way) := fun k s hs => (v2.step hs).1
    have HWL : Hid (way.length ≤ 64) := v2.2.1
    have k3 : decide (c0 < -1073741824) = false := decide_eq_false (by omega)
    have k4 : decide (1073741824 < c0) = false := decide_eq_false (by omega)
    have HK3 := Lib.hid v3
    have HK4 := Lib.hid v4
    clear v1 v2 v3 v4
    go_enter Tryd.func20, Tryd.ntmps20
    go_upto_region 3 with (first
      | (go_at_call 21; refine (to_after (rvalid_any B p cp _ (by unfold maxLen; omega) (HP.out.keep E0.out))).mono ?_; rw [K1.out]; rintro e w' ⟨ya, rfl, rfl⟩)
      | (go_at_call 22; refine (in_after _ (rvalid_way L A way c _ (HL.out.keep (etr E0.out (After.is _))) HM.out (HR.out.keep (etr E0.out (After.is _))))).mono ?_; rw [K2.out]; rintro e w' ⟨yb, rfl, rfl⟩))
    have HO : Hid (OwnL (yb.val.alloc (.cells #[] 53)) w.heap.size 53 4 Sgc (.slice (some ⟨yb.val.heap.size, 0, none⟩) 0 0) ([] : List Sgm)) := World.ownsRow_lit yb.val #[] 0 (esz (etr E0.out yb.is)) (by simp) (by simp)
    have hi := HII.out
    have E9 : Hid (Ext w (yb.val.alloc (.cells #[] 53))) := eal (etr E0.out yb.is) _
    have L9 : Hid (LayAt (yb.val.alloc (.cells #[] 53)) w.heap.size L) := (CellsAt.keep (CellsAt.new rfl) yb.is).keep (eal (Ext.refl _) _)
    go_wp2_with (at_builtin
                 refine wp_appL (u := w) Sgc_len Sgc_one Tryd.underlying43 hi hz0 hz1 hz2 rfl (by decide) rfl rfl rfl HO.out E9.out p B cp (by simp [go_sem]) (HP.out.keep E9.out) (by simp; omega) (by simp; unfold maxLen; omega) ?_
                 intro v1 w1 H1
                 rw [List.nil_append] at H1)
    obtain ⟨A1, cap1, rfl, hr1, hm1, hcc1⟩ := H1.out.1.rdc Sgc_len
    have HR1 := Lib.hid hr1
    have HC1 := Lib.hid hcc1
    have E1 := Lib.hid H1.out.2.1
    have L1 : Hid (LayAt w1 w.heap.size L) := L9.out.grown H1.out.2.2.1 (fun e => by have e2 : some yb.val.heap.size = some w.heap.size := e; injection e2 with e3; have := yb.is.size; simp at this; omega)
    clear hr1 hm1 hcc1 H1
    go_loopg [11, 44] l.length (fun g x11 ix wr => ∃ (k : Nat) (A' : Option Addr) (q : List Sgm) (cq : Nat), ix = .int .i64 k ∧ x11 = .slice A' q.length cq ∧ k ≤ l.length ∧ g = l.length - k ∧ Hid (Ext w wr ∧ LayAt wr w.heap.size L ∧ Rd wr A' 4 Sgc q ∧ q.length ≤ 1000000 ∧ q.length ≤ cq ∧ q = allTo L.els way c0 l k p))
    case atStart => exact ⟨0, A1, p, cap1, rfl, rfl, by omega, by omega, E1.out, L1.out, HR1.out, HPL.out, HC1.out, rfl⟩
    case round =>
      obtain ⟨k, A', q, cq, rfl, rfl, hk, hg, H⟩ := hrel
      have HG := Lib.hid hg
      clear hg
      by_cases hlt : k < l.length
      · obtain ⟨b, off, r, rfl, hs, hbs, d0, d1, d2, d3, d4, d5⟩ := rd_rs HRL.out H.out.1 hlt
        have HS := Lib.hid hs
        clear hs
        go_wp2
        obtain ⟨w1', hw1⟩ : ∃ w1', w1' = wr.alloc (.cells #[.int .i64 r.id, .int .i64 r.el, .int .i64 r.from_, .int .i64 r.to_, .int .i64 r.speed, .bool r.act] 31) := ⟨_, rfl⟩
        rw [← hw1]
        have E1' : Hid (Ext w w1') := hw1 ▸ eal H.out.1 _
        have L1' : Hid (LayAt w1' w.heap.size L) := hw1 ▸ H.out.2.1.keep (eal (Ext.refl _) _)
        have B1' : Hid (RstAt w1' wr.heap.size r) := hw1 ▸ CellsAt.new rfl
        have Q1' : Hid (Rd w1' A' 4 Sgc q) := hw1 ▸ H.out.2.2.1.keep (eal (Ext.refl _) _)
        clear hw1 d0 d1 d2 d3 d4 d5 hbs
        go_loopg [11, 14, 51] way.length (fun g x11 x14 ix wr2 => ∃ (j : Nat) (c1 : Int) (A2 : Option Addr) (q2 : List Sgm) (cq2 : Nat), ix = .int .i64 j ∧ x14 = .int .i64 c1 ∧ x11 = .slice A2 q2.length cq2 ∧ j ≤ way.length ∧ g = way.length - j ∧ Hid (Ext w1' wr2 ∧ Rd wr2 A2 4 Sgc q2 ∧ q2.length ≤ 1000000 ∧ q2.length ≤ cq2 ∧ c1 = begF L.els way c0 j ∧ q2 = stepQ L.els r way c0 j q))
        case atStart => exact ⟨0, c0, A', q, cq, rfl, rfl, rfl, by omega, by omega, Ext.refl _, Q1'.out, H.out.2.2.2.1, H.out.2.2.2.2.1, rfl, stepQ_zero.symm⟩
        case round =>
          obtain ⟨j, c1, A2, q2, cq2, rfl, rfl, rfl, hj, hg2, H2⟩ := hrel
          have HG2 := Lib.hid hg2
          clear hg2
          by_cases hlt2 : j < way.length
          · have hb := beg_bound (c := c0) HE.out HWI.out hj
            rw [← H2.out.2.2.2.2.1] at hb
            have hwl := HWL.out
            have hk3 := HK3.out
            have hk4 := HK4.out
            have hb3 : -1073741824 ≤ c1 := by omega
            have hb4 : c1 ≤ 1073741824 + 64000000 := by omega
            clear hb hk3 hk4
            have E3 : Hid (Ext w wr) := etr E1'.out H2.out.1
            obtain ⟨bw, ow, s, rfl, hs, hbs, s0, s1, s2⟩ := rd_st HR.out E3.out hlt2
            have HSJ := Lib.hid hs
            obtain ⟨kE, x, hel, hx, hxe⟩ := has_at (HWI.out j s hs)
            have HXE := Lib.hid hxe
            have HIN := Lib.hid (HWI.out j s hs)
            have hXB := HE.out kE x hx
            have hx1 := hXB.2.2.1
            have hx2 := hXB.2.2.2
            have hmE := HL.out.lE
            unfold maxLen at hmE
            obtain ⟨bE, oE, x', hA, hx', hbE, e0, e1, e2, e3, e4, e5, e6⟩ := rd_el HL.out.hE E3.out (List.getElem?_eq_some_iff.1 hx).1
            rw [hx] at hx'
            cases hx'
            have hkE := (List.getElem?_eq_some_iff.1 hx).1
            obtain ⟨l0, a0, a1, a2, a3, a4, a5⟩ := layAt_cells (L1'.out.keep H2.out.1)
            obtain ⟨r0, z0, z1, z2, z3, z4, z5⟩ := rstAt_cells (B1'.out.keep H2.out.1)
            rw [hA] at a2
            have HAE := Lib.hid hA
            clear hs hx hxe hXB hA
            obtain ⟨sel, sin, sout⟩ := s
            obtain rfl : sel = (kE : Int) := hel
            simp only [] at s0 s1 s2 HSJ HXE HIN
            have hbE1 : bE < wr.heap.size + 1 := by omega
            have l1 : w.heap.size < wr.heap.size + 1 := by omega
            have r1 := lt_up r0
            have hc1w : IntKind.i64.wrap (c1 + x.len) = c1 + x.len := IntWalk.i64_in _ (by omega)
            have HB : Hid (c1 + x.len = begF L.els way c0 (j + 1)) := by
              show _ = _
              rw [begF_succ HSJ.out, ← H2.out.2.2.2.2.1, HXE.out]
            by_cases hu : useR L.els r ∧ (kE : Int) = r.el
            · have hq : ((kE : Int) == r.el) = true := by simpa using hu.2
              have HOK := Lib.hid hu.1.2
              have HACT := Lib.hid hu.1.1
              have HCK : Hid (∀ w', Ext w w' → Calls Tryd.prog 13 #[(.agg #[.string L.name, .slice L.aS L.secs.length L.cS, .slice (some ⟨bE, oE, none⟩) L.els.length L.cE, .slice L.aJ L.jts.length L.cJ, .slice L.aG L.sgs.length L.cG, .slice L.aB L.bals.length L.cB]), (.agg #[.int .i64 r.id, .int .i64 r.el, .int .i64 r.from_, .int .i64 r.to_, .int .i64 r.speed, .bool true])] w' fun e w'' => e = .returned (.int .i64 (chkE L.els r)) ∧ Below w'.heap.size w' w'') := fun w' h => by
                have := rchk_any L r w' (HL.out.keep h)
                rw [HACT.out, HAE.out] at this
                exact this
              have HPT : Hid (∀ w', Ext w w' → Calls Tryd.prog 39 #[(.agg #[.string L.name, .slice L.aS L.secs.length L.cS, .slice (some ⟨bE, oE, none⟩) L.els.length L.cE, .slice L.aJ L.jts.length L.cJ, .slice L.aG L.sgs.length L.cG, .slice L.aB L.bals.length L.cB]), .agg #[.int .i64 kE, .int .i64 sin, .int .i64 sout], .int .i64 c1, (.agg #[.int .i64 r.id, .int .i64 r.el, .int .i64 r.from_, .int .i64 r.to_, .int .i64 r.speed, .bool true])] w' fun e w'' => e = .returned (.tuple #[.int .i64 (partA L.els ⟨kE, sin, sout⟩ c1 r), .int .i64 (partZ L.els ⟨kE, sin, sout⟩ c1 r)]) ∧ Below w'.heap.size w' w'') := fun w' h => by
                have := rpart_any L ⟨kE, sin, sout⟩ c1 r w' (HL.out.keep h) HE.out HIN.out hb3 hb4 HOK.out
                rw [HACT.out, HAE.out] at this
                exact this
              rw [hu.1.1] at z5
              have HCE : Hid (chkE L.els r = 0) := chkE_zero.2 hu.1.2
              have HQ : Hid (limL q2 (partA L.els ⟨kE, sin, sout⟩ c1 r) (partZ L.els ⟨kE, sin, sout⟩ c1 r) r.speed = stepQ L.els r way c0 (j + 1) q) := by
                show _ = _
                rw [stepQ_hit HSJ.out hu.1 hu.2, ← H2.out.2.2.2.2.1, ← H2.out.2.2.2.2.2]
              clear hu
              have E4 : Hid (Ext wr (wr.alloc (.cells #[.int .i64 kE, .int .i64 sin, .int .i64 sout] 58))) := eal (Ext.refl _) _
              go_wp2_with (first
                | (go_at_call 13; refine (to_after (HCK.out _ (etr E3.out E4.out))).mono ?_; rw [HCE.out]; rintro e w' ⟨y1, rfl, rfl⟩)
                | (go_at_call 39; refine (in_after _ (HPT.out _ (etr (etr E3.out E4.out) (After.is _)))).mono ?_; rintro e w' ⟨y2, rfl, rfl⟩)
                | (go_at_call 40; refine (rlimit_any A2 q2 cq2 _ _ r.speed _ H2.out.2.2.1 H2.out.2.2.2.1 (H2.out.2.1.keep (etr E4.out (After.is _)))).mono ?_; rintro e w' ⟨v, rfl, ho, hb⟩; rw [HQ.out] at ho; have hle := limL_le q2 (partA L.els ⟨kE, sin, sout⟩ c1 r) (partZ L.els ⟨kE, sin, sout⟩ c1 r) r.speed; rw [HQ.out] at hle; obtain ⟨A3, cap3, rfl, hr3, hm3, hc3⟩ := ho.rdc Sgc_len; obtain ⟨y3, rfl⟩ : ∃ y3 : After (wr.alloc (.cells #[.int .i64 kE, .int .i64 sin, .int .i64 sout] 58)), w' = y3.val := ⟨⟨w', etr (After.is _) hb⟩, rfl⟩; have HR3 := Lib.hid hr3; have HC3 := Lib.hid hc3; have HLE := Lib.hid hle; clear ho hr3 hm3 hc3 hle hb))
              go_roundg (way.length - (j + 1))
              case measure => have := HG2.out; omega
              case rel => exact ⟨j + 1, c1 + x.len, A3, stepQ L.els r way c0 (j + 1) q, cap3, by go_num, rfl, rfl, by omega, rfl, etr (etr H2.out.1 E4.out) (After.is _), HR3.out, by have := HLE.out; omega, HC3.out, HB.out, rfl⟩
            · have HQ : Hid (q2 = stepQ L.els r way c0 (j + 1) q) := by
                show _ = _
                rw [stepQ_miss HSJ.out hu, ← H2.out.2.2.2.2.2]
              have E4 : Hid (Ext wr (wr.alloc (.cells #[.int .i64 kE, .int .i64 sin, .int .i64 sout] 58))) := eal (Ext.refl _) _
              by_cases hq0 : (kE : Int) = r.el
              · have hq : ((kE : Int) == r.el) = true := by simpa using hq0
                rcases Bool.eq_false_or_eq_true r.act with hact | hact
                rotate_left
                · rw [hact] at z5
                  clear hu hq0 hact
                  go_wp2
                  go_roundg (way.length - (j + 1))
                  case measure => have := HG2.out; omega
                  case rel => exact ⟨j + 1, c1 + x.len, A2, q2, cq2, by go_num, rfl, rfl, by omega, rfl, etr H2.out.1 E4.out, H2.out.2.1.keep E4.out, H2.out.2.2.1, H2.out.2.2.2.1, HB.out, HQ.out⟩
                · have HCE : Hid (chkE L.els r = 1) := by
                    show _ = _
                    unfold chkE
                    rw [if_neg (fun h => hu ⟨⟨hact, h⟩, hq0⟩)]
                  have HCK : Hid (∀ w', Ext w w' → Calls Tryd.prog 13 #[(.agg #[.string L.name, .slice L.aS L.secs.length L.cS, .slice (some ⟨bE, oE, none⟩) L.els.length L.cE, .slice L.aJ L.jts.length L.cJ, .slice L.aG L.sgs.length L.cG, .slice L.aB L.bals.length L.cB]), (.agg #[.int .i64 r.id, .int .i64 r.el, .int .i64 r.from_, .int .i64 r.to_, .int .i64 r.speed, .bool true])] w' fun e w'' => e = .returned (.int .i64 (chkE L.els r)) ∧ Below w'.heap.size w' w'') := fun w' h => by
                    have := rchk_any L r w' (HL.out.keep h)
                    rw [hact, HAE.out] at this
                    exact this
                  rw [hact] at z5
                  clear hu hq0 hact
                  go_wp2_with (go_at_call 13; refine (to_after (HCK.out _ (etr E3.out E4.out))).mono ?_; rw [HCE.out]; rintro e w' ⟨y1, rfl, rfl⟩)
                  go_roundg (way.length - (j + 1))
                  case measure => have := HG2.out; omega
                  case rel => exact ⟨j + 1, c1 + x.len, A2, q2, cq2, by go_num, rfl, rfl, by omega, rfl, etr (etr H2.out.1 E4.out) (After.is _), H2.out.2.1.keep (etr E4.out (After.is _)), H2.out.2.2.1, H2.out.2.2.2.1, HB.out, HQ.out⟩
              · have hq : ((kE : Int) == r.el) = false := by simpa using hq0
                clear hu hq0
                go_wp2
                go_roundg (way.length - (j + 1))
                case measure => have := HG2.out; omega
                case rel => exact ⟨j + 1, c1 + x.len, A2, q2, cq2, by go_num, rfl, rfl, by omega, rfl, etr H2.out.1 E4.out, H2.out.2.1.keep E4.out, H2.out.2.2.1, H2.out.2.2.2.1, HB.out, HQ.out⟩
          · have e : j = way.length := by omega
            subst e
            have HQ : Hid (q2 = allTo L.els way c0 l (k + 1) p) := by
              show _ = _
              rw [H2.out.2.2.2.2.2, stepQ_all, allTo_succ HS.out, ← H.out.2.2.2.2.2]
            go_wp2
            go_roundg (l.length - (k + 1))
            case measure => have := HG.out; omega
            case rel => exact ⟨k + 1, A2, q2, cq2, by go_num, rfl, by omega, rfl, etr E1'.out H2.out.1, L1'.out.keep H2.out.1, H2.out.2.1, H2.out.2.2.1, H2.out.2.2.2.1, HQ.out⟩
      · have e : k = l.length := by omega
        subst e
        have HF : Hid (q = allF L.els way c0 l p) := by
          have := H.out.2.2.2.2.2
          unfold allTo at this
          rw [List.take_length] at this
          exact this
        go_wp2
        go_ret
        refine ⟨A', cq, ?_, ?_, ?_, H.out.1⟩
        · rw [HA.out, ← HF.out]; rfl
        · rw [HA.out, ← HF.out]; exact H.out.2.2.1
        · rw [HA.out, ← HF.out]; exact H.out.2.2.2.1
  · have HA : Hid (appL L.els L.jts l way c0 p = p) := by show _ = _; unfold appL; rw [if_neg hap]
    have key : (validB p = false) ∨ (validB p = true ∧ wayB L.els L.jts way = false) ∨ (validB p = true ∧ wayB L.els L.jts way = true ∧ decide (c0 < -1073741824) = true) ∨ (validB p = true ∧ wayB L.els L.jts way = true ∧ decide (c0 < -1073741824) = false ∧ decide (1073741824 < c0) = true) := by
      cases h1 : validB p
      · exact .inl rfl
      · cases h2 : wayB L.els L.jts way
        · exact .inr (.inl ⟨rfl, rfl⟩)
        · by_cases h3 : c0 < -1073741824
          · exact .inr (.inr (.inl ⟨rfl, rfl, decide_eq_true h3⟩))
          · refine .inr (.inr (.inr ⟨rfl, rfl, decide_eq_false h3, decide_eq_true ?_⟩))
            by_cases h4 : 1073741824 < c0
            · exact h4
            · exact absurd ⟨validB_true.1 h1, wayB_true.1 h2, by omega, by omega⟩ hap
    clear hap
    rcases key with k1 | ⟨k1, k2⟩ | ⟨k1, k2, k3⟩ | ⟨k1, k2, k3, k4⟩
    · have K1 := Lib.hid k1
      have K2 : Hid (wayB L.els L.jts way = true ∨ True) := .inr trivial
      clear k1
      go_enter Tryd.func20, Tryd.ntmps20
      go_upto_region 2 with (go_at_call 21; refine (to_after (rvalid_any B p cp _ (by unfold maxLen; omega) (HP.out.keep E0.out))).mono ?_; rw [K1.out]; rintro e w' ⟨ya, rfl, rfl⟩)
      have HO : Hid (OwnL (ya.val.alloc (.cells #[] 53)) w.heap.size 53 4 Sgc (.slice (some ⟨ya.val.heap.size, 0, none⟩) 0 0) ([] : List Sgm)) := World.ownsRow_lit ya.val #[] 0 (esz (etr E0.out ya.is)) (by simp) (by simp)
      have hi := HII.out
      have E9 : Hid (Ext w (ya.val.alloc (.cells #[] 53))) := eal (etr E0.out ya.is) _
      go_wp2_with (at_builtin
                   refine wp_appL (u := w) Sgc_len Sgc_one Tryd.underlying43 hi hz0 hz1 hz2 rfl (by decide) rfl rfl rfl HO.out E9.out p B cp (by simp [go_sem]) (HP.out.keep E9.out) (by simp; omega) (by simp; unfold maxLen; omega) ?_
                   intro v1 w1 H1
                   rw [List.nil_append] at H1)
      go_ret
      obtain ⟨A1, cap1, rfl, hr1, hm1⟩ := H1.out.1.rd Sgc_len
      exact ⟨A1, cap1, by rw [HA.out]; rfl, by rw [HA.out]; exact hr1, by rw [HA.out]; exact HPL.out, H1.out.2.1⟩
    · have K1 := Lib.hid k1
      have K2 := Lib.hid k2
      clear k1 k2
      go_enter Tryd.func20, Tryd.ntmps20
      go_upto_region 2 with (first
        | (go_at_call 21; refine (to_after (rvalid_any B p cp _ (by unfold maxLen; omega) (HP.out.keep E0.out))).mono ?_; rw [K1.out]; rintro e w' ⟨ya, rfl, rfl⟩)
        | (go_at_call 22; refine (in_after _ (rvalid_way L A way c _ (HL.out.keep (etr E0.out (After.is _))) HM.out (HR.out.keep (etr E0.out (After.is _))))).mono ?_; rw [K2.out]; rintro e w' ⟨yb, rfl, rfl⟩))
      have HO : Hid (OwnL (yb.val.alloc (.cells #[] 53)) w.heap.size 53 4 Sgc (.slice (some ⟨yb.val.heap.size, 0, none⟩) 0 0) ([] : List Sgm)) := World.ownsRow_lit yb.val #[] 0 (esz (etr E0.out yb.is)) (by simp) (by simp)
      have hi := HII.out
      have E9 : Hid (Ext w (yb.val.alloc (.cells #[] 53))) := eal (etr E0.out yb.is) _
      go_wp2_with (at_builtin
                   refine wp_appL (u := w) Sgc_len Sgc_one Tryd.underlying43 hi hz0 hz1 hz2 rfl (by decide) rfl rfl rfl HO.out E9.out p B cp (by simp [go_sem]) (HP.out.keep E9.out) (by simp; omega) (by simp; unfold maxLen; omega) ?_
                   intro v1 w1 H1
                   rw [List.nil_append] at H1)
      go_ret
      obtain ⟨A1, cap1, rfl, hr1, hm1⟩ := H1.out.1.rd Sgc_len
      exact ⟨A1, cap1, by rw [HA.out]; rfl, by rw [HA.out]; exact hr1, by rw [HA.out]; exact HPL.out, H1.out.2.1⟩
    · have K1 := Lib.hid k1
      have K2 := Lib.hid k2
      clear k1 k2
      go_enter Tryd.func20, Tryd.ntmps20
      go_upto_region 2 with (first
        | (go_at_call 21; refine (to_after (rvalid_any B p cp _ (by unfold maxLen; omega) (HP.out.keep E0.out))).mono ?_; rw [K1.out]; rintro e w' ⟨ya, rfl, rfl⟩)
        | (go_at_call 22; refine (in_after _ (rvalid_way L A way c _ (HL.out.keep (etr E0.out (After.is _))) HM.out (HR.out.keep (etr E0.out (After.is _))))).mono ?_; rw [K2.out]; rintro e w' ⟨yb, rfl, rfl⟩))
      have HO : Hid (OwnL (yb.val.alloc (.cells #[] 53)) w.heap.size 53 4 Sgc (.slice (some ⟨yb.val.heap.size, 0, none⟩) 0 0) ([] : List Sgm)) := World.ownsRow_lit yb.val #[] 0 (esz (etr E0.out yb.is)) (by simp) (by simp)
      have hi := HII.out
      have E9 : Hid (Ext w (yb.val.alloc (.cells #[] 53))) := eal (etr E0.out yb.is) _
      go_wp2_with (at_builtin
                   refine wp_appL (u := w) Sgc_len Sgc_one Tryd.underlying43 hi hz0 hz1 hz2 rfl (by decide) rfl rfl rfl HO.out E9.out p B cp (by simp [go_sem]) (HP.out.keep E9.out) (by simp; omega) (by simp; unfold maxLen; omega) ?_
                   intro v1 w1 H1
                   rw [List.nil_append] at H1)
      go_ret
      obtain ⟨A1, cap1, rfl, hr1, hm1⟩ := H1.out.1.rd Sgc_len
      exact ⟨A1, cap1, by rw [HA.out]; rfl, by rw [HA.out]; exact hr1, by rw [HA.out]; exact HPL.out, H1.out.2.1⟩
    · have K1 := Lib.hid k1
      have K2 := Lib.hid k2
      clear k1 k2
      go_enter Tryd.func20, Tryd.ntmps20
      go_upto_region 2 with (first
        | (go_at_call 21; refine (to_after (rvalid_any B p cp _ (by unfold maxLen; omega) (HP.out.keep E0.out))).mono ?_; rw [K1.out]; rintro e w' ⟨ya, rfl, rfl⟩)
        | (go_at_call 22; refine (in_after _ (rvalid_way L A way c _ (HL.out.keep (etr E0.out (After.is _))) HM.out (HR.out.keep (etr E0.out (After.is _))))).mono ?_; rw [K2.out]; rintro e w' ⟨yb, rfl, rfl⟩))
      have HO : Hid (OwnL (yb.val.alloc (.cells #[] 53)) w.heap.size 53 4 Sgc (.slice (some ⟨yb.val.heap.size, 0, none⟩) 0 0) ([] : List Sgm)) := World.ownsRow_lit yb.val #[] 0 (esz (etr E0.out yb.is)) (by simp) (by simp)
      have hi := HII.out
      have E9 : Hid (Ext w (yb.val.alloc (.cells #[] 53))) := eal (etr E0.out yb.is) _
      go_wp2_with (at_builtin
                   refine wp_appL (u := w) Sgc_len Sgc_one Tryd.underlying43 hi hz0 hz1 hz2 rfl (by decide) rfl rfl rfl HO.out E9.out p B cp (by simp [go_sem]) (HP.out.keep E9.out) (by simp; omega) (by simp; unfold maxLen; omega) ?_
                   intro v1 w1 H1
                   rw [List.nil_append] at H1)
      go_ret
      obtain ⟨A1, cap1, rfl, hr1, hm1⟩ := H1.out.1.rd Sgc_len
      exact ⟨A1, cap1, by rw [HA.out]; rfl, by rw [HA.out]; exact hr1, by rw [HA.out]; exact HPL.out, H1.out.2.1⟩
end Go.Proofs.YtacnfchoemndeaaDoor
