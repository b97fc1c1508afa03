/- Walks of profile.Of and of the reference's Of. -/
import Derived.Test.YtoodehilgogomaaDoorPOf
import Derived.Test.YtoodehilgogomaaDoorLayK
import Derived.Test.YtoodehilgogomaaDoorWLayB
import Derived.Test.YtoodehilgogomaaDoorWProfE
import Derived.Test.YtoodehilgogomaaDoorHead
import Derived.Test.YtoodehilgogomaaDoorWProfB
set_option linter.unusedVariables false
set_option linter.unusedSimpArgs false
set_option maxRecDepth 100000
namespace Go.Proofs.YtoodehilgogomaaDoor
open Go.ChangeShapes Go.WideShapes Go.ChangeAt Go.RowKit
open Sg

def negW (n : Int) : Int := wrap64 (-n)
theorem spd_key (els : List Elm) (s : Stp) (x : Elm) (hx : elAt els s.el = x) : (spdB els s = true ∧ (x.kind == 2) = true ∧ ((s.in_ == 2) = true ∨ ((s.in_ == 2) = false ∧ (s.out_ == 2) = true))) ∨ (spdB els s = false ∧ ((x.kind == 2) = false ∨ ((x.kind == 2) = true ∧ (s.in_ == 2) = false ∧ (s.out_ == 2) = false))) := by
  unfold spdB
  rw [hx]
  cases (x.kind == 2) <;> cases (s.in_ == 2) <;> cases (s.out_ == 2) <;> simp
theorem gradient_any (els : List Elm) (s : Stp) (x : Elm) (hx : elAt els s.el = x) (w : World) : Calls Tryd.prog 22 #[.agg #[.string x.name, .int .i64 x.kind, .int .i64 x.len, .int .i64 x.grade, .int .i64 x.speed, .int .i64 x.slow, .int .i64 x.sec], .agg #[.int .i64 s.el, .int .i64 s.in_, .int .i64 s.out_]] w fun e w' => e = .returned (.int .i64 (gradV negW els s)) ∧ Below w.heap.size w w' := by
  rcases fwd_key els s x hx with ⟨hf, hkey⟩ | ⟨hf, hkey⟩
  · have HV : Hid (gradV negW els s = x.grade) := by show _ = _; unfold gradV; rw [if_pos hf, hx]
    clear hf hx
    rcases hkey with k1 | ⟨k1, k2, k3⟩
    all_goals go_enter Tryd.func22, Tryd.ntmps22
    all_goals go_wp2
    all_goals go_ret
    all_goals exact ⟨ret_int HV.out.symm, eal (eal (Ext.refl _) _) _⟩
  · have HV : Hid (gradV negW els s = negW x.grade) := by show _ = _; unfold gradV; rw [if_neg (by simp [hf]), hx]
    clear hf hx
    rcases hkey with ⟨k1, k2, k3⟩ | ⟨k1, k2⟩
    all_goals go_enter Tryd.func22, Tryd.ntmps22
    all_goals go_wp2
    all_goals go_ret
    all_goals exact ⟨ret_int HV.out.symm, eal (eal (Ext.refl _) _) _⟩
theorem speed_any (els : List Elm) (s : Stp) (x : Elm) (hx : elAt els s.el = x) (w : World) : Calls Tryd.prog 23 #[.agg #[.string x.name, .int .i64 x.kind, .int .i64 x.len, .int .i64 x.grade, .int .i64 x.speed, .int .i64 x.slow, .int .i64 x.sec], .agg #[.int .i64 s.el, .int .i64 s.in_, .int .i64 s.out_]] w fun e w' => e = .returned (.int .i64 (spdV els s)) ∧ Below w.heap.size w w' := by
  rcases spd_key els s x hx with ⟨hf, k0, hkey⟩ | ⟨hf, hkey⟩
  · have HV : Hid (spdV els s = x.slow) := by show _ = _; unfold spdV; rw [if_pos hf, hx]
    clear hf hx
    rcases hkey with k1 | ⟨k1, k2⟩
    all_goals go_enter Tryd.func23, Tryd.ntmps23
    all_goals go_wp2
    all_goals go_ret
    all_goals exact ⟨ret_int HV.out.symm, eal (eal (Ext.refl _) _) _⟩
  · have HV : Hid (spdV els s = x.speed) := by show _ = _; unfold spdV; rw [if_neg (by simp [hf]), hx]
    clear hf hx
    rcases hkey with k1 | ⟨k1, k2, k3⟩
    all_goals go_enter Tryd.func23, Tryd.ntmps23
    all_goals go_wp2
    all_goals go_ret
    all_goals exact ⟨ret_int HV.out.symm, eal (eal (Ext.refl _) _) _⟩

theorem inf_Sg2 : (Tryd.prog.info? 41).map (fun i => (i.zero, i.size, i.bytes)) = some (some (.agg #[.int .i64 0, .int .i64 0, .int .i64 0, .int .i64 0]), 4, 32) := by kernel_rfl
def RetP (q : List Sgm) (w : World) (e : Ending) (w' : World) : Prop := ∃ A' cap', e = .returned (.slice A' q.length cap') ∧ Rd w' A' 4 Sgc q ∧ Below w.heap.size w w'
theorem RetP.nil {q : List Sgm} {w w' : World} (h : q = []) (hb : Below w.heap.size w w') : RetP q w (.returned (.slice none 0 0)) w' := by
  subst h; exact ⟨none, 0, rfl, Rd.nil, hb⟩
def StepsTo (els : List Elm) (way : List Stp) (k : Nat) : Prop := ∀ (i : Nat) s, i < k → way[i]? = some s → StepOk els s
theorem StepsTo.succ {els : List Elm} {way : List Stp} {k : Nat} {s : Stp} (h : StepsTo els way k) (hs : way[k]? = some s) (g : StepOk els s) : StepsTo els way (k + 1) := fun i t hi ht => by
  by_cases e : i = k
  · subst e; rw [hs] at ht; cases ht; exact g
  · exact h i t (by omega) ht
set_option maxHeartbeats 32000000 in
theorem of_any (L : Lay) (A : Option Addr) (way : List Stp) (c : Nat) (o : Int) (w : World) (hL : LayOk w L) (hT : Tabs w) (hE : ElsOk L.els) (hr : Rd w A 3 Stc way) (hm : way.length ≤ maxLen) :
    Calls Tryd.prog 7 #[.agg #[.string L.name, .slice L.aS L.secs.length L.cS, .slice L.aE L.els.length L.cE, .slice L.aJ L.jts.length L.cJ, .slice L.aG L.sgs.length L.cG, .slice L.aB L.bals.length L.cB], .slice A way.length c, .int .i64 o] w (RetP (ofL negW L.els way o) w) := by
  obtain ⟨i0, hi, hz0, hz1, hz2⟩ := info_parts inf_Sg2
  have HII := Lib.hid hi
  have HL := Lib.hid hL
  have HT := Lib.hid hT
  have HE := Lib.hid hE
  have HR := Lib.hid hr
  clear hi hL hT hE hr
  unfold maxLen at hm
  by_cases hlong : 128 < way.length
  · have HV := Lib.hid (ofL_long negW (els := L.els) (o := o) hlong)
    have q1 : decide ((128 : Int) < (way.length : Int)) = true := decide_eq_true (by omega)
    go_enter Tryd.func7, Tryd.ntmps7
    go_wp2
    go_ret
    exact RetP.nil HV.out (eal (Ext.refl _) _)
  have q1 : decide ((128 : Int) < (way.length : Int)) = false := decide_eq_false (by omega)
  have hwl : way.length ≤ 128 := by omega
  clear hlong
  go_enter Tryd.func7, Tryd.ntmps7
  go_wp2
  go_loopg [7, 8, 21] way.length (fun g x7 x8 ix wr => ∃ (k : Nat) (c1 : Int), ix = .int .i64 k ∧ x8 = .int .i64 c1 ∧ k ≤ way.length ∧ g = way.length - k ∧ Hid (Ext w wr ∧ LayAt wr w.heap.size L ∧ OwnL wr w.heap.size 41 4 Sgc x7 (ofTo negW L.els way o k) ∧ x7.ownBlock ≠ some w.heap.size ∧ c1 = begF L.els way o k ∧ StepsTo L.els way k ∧ (0 < k → -1073741824 ≤ o ∧ o ≤ 1073741824)))
  case atStart => exact ⟨0, o, rfl, rfl, by omega, by omega, eal (Ext.refl _) _, CellsAt.new rfl, OwnL.nil, by simp [Value.ownBlock], rfl, fun i s hi => absurd hi (by omega), fun h => absurd h (by omega)⟩
  case round =>
    obtain ⟨k, c1, rfl, rfl, hk, hg, H⟩ := hrel
    have HG := Lib.hid hg
    clear hg
    obtain ⟨l0, a0, a1, a2, a3, a4, a5⟩ := layAt_cells H.out.2.1
    have l1 := lt_up l0
    have l2 := lt_up l1
    by_cases hlt : k < way.length
    · obtain ⟨bw, ow, s, rfl, hs, hbs, s0, s1, s2⟩ := rd_st HR.out H.out.1 hlt
      have HS := Lib.hid hs
      clear hs
      by_cases hlow : s.el < 0
      · have HV : Hid (ofL negW L.els way o = []) := ofL_step negW HS.out (fun h => by have := h.1.1; omega)
        have q2 : decide (s.el < 0) = true := decide_eq_true hlow
        clear hlow
        go_wp2
        go_ret
        exact RetP.nil HV.out (eal H.out.1 _)
      have q2 : decide (s.el < 0) = false := decide_eq_false hlow
      by_cases hhi : (L.els.length : Int) ≤ s.el
      · have HV : Hid (ofL negW L.els way o = []) := ofL_step negW HS.out (fun h => by have := h.1.2; omega)
        have q3 : decide ((L.els.length : Int) ≤ s.el) = true := decide_eq_true hhi
        clear hhi hlow
        go_wp2
        go_ret
        exact RetP.nil HV.out (eal H.out.1 _)
      obtain ⟨kE, x, hel, hx, hxe⟩ := has_at (els := L.els) (el := s.el) ⟨by omega, by omega⟩
      have hxb := HE.out kE x hx
      have hx1 := hxb.2.2.1
      have hx2 := hxb.2.2.2
      have hmE := HL.out.lE
      unfold maxLen at hmE
      obtain ⟨bE, oE, x', hAE, hx', hbE, e0, e1, e2, e3, e4, e5, e6⟩ := rd_el HL.out.hE H.out.1 (List.getElem?_eq_some_iff.1 hx).1
      rw [hx] at hx'
      cases hx'
      have hkE := (List.getElem?_eq_some_iff.1 hx).1
      obtain ⟨sel, sin, sout⟩ := s
      obtain rfl : sel = (kE : Int) := hel
      simp only [] at s0 s1 s2 HS hxe
      have HXE := Lib.hid hxe
      have q3n : decide (L.els.length ≤ kE) = false := decide_eq_false (by omega)
      have hbs1 := lt_up hbs
      have hbE1 := lt_up hbE
      have HIN : Hid (hasEl L.els (kE : Int)) := ⟨by omega, by omega⟩
      rw [hAE] at a2
      clear hlow hhi q2 hx hxe hxb hAE
      have q2 : decide ((kE : Int) < 0) = false := decide_eq_false (by omega)
      have E4 : Hid (Ext w ((wr.alloc (.cells #[.int .i64 kE, .int .i64 sin, .int .i64 sout] 47)).alloc (.cells #[.string x.name, .int .i64 x.kind, .int .i64 x.len, .int .i64 x.grade, .int .i64 x.speed, .int .i64 x.slow, .int .i64 x.sec] 49))) := eal (eal H.out.1 _) _
      have X4 : Hid (Ext wr ((wr.alloc (.cells #[.int .i64 kE, .int .i64 sin, .int .i64 sout] 47)).alloc (.cells #[.string x.name, .int .i64 x.kind, .int .i64 x.len, .int .i64 x.grade, .int .i64 x.speed, .int .i64 x.slow, .int .i64 x.sec] 49))) := eal (eal (Ext.refl _) _) _
      cases hn : needB x.kind sin sout
      · have HV : Hid (ofL negW L.els way o = []) := ofL_step negW HS.out (fun h => by have := h.2; rw [HXE.out] at this; simp only [] at this; rw [hn] at this; cases this)
        have HN := Lib.hid hn
        clear hn
        go_wp2_with (go_at_call 20; refine (to_after (need_any x.kind sin sout _ (HT.out.keep E4.out))).mono ?_; rw [HN.out]; rintro e w' ⟨y, rfl, rfl⟩)
        go_ret
        exact RetP.nil HV.out (etr E4.out (After.is _))
      have HOKS : Hid (StepOk L.els ⟨kE, sin, sout⟩) := ⟨HIN.out, by rw [HXE.out]; exact hn⟩
      have HN := Lib.hid hn
      clear hn
      cases hco : coB c1
      · have HV : Hid (ofL negW L.els way o = []) := ofL_coord negW HS.out (by rw [← H.out.2.2.2.2.1]; exact coB_false.1 hco)
        have HC := Lib.hid hco
        clear hco
        go_wp2_with (first
          | (go_at_call 20; refine (to_after (need_any x.kind sin sout _ (HT.out.keep E4.out))).mono ?_; rw [HN.out]; rintro e w' ⟨y, rfl, rfl⟩)
          | (go_at_call 21; refine (pco_any c1 _).mono ?_; rw [HC.out]; rintro e w' ⟨rfl, rfl⟩))
        go_ret
        exact RetP.nil HV.out (etr E4.out (After.is _))
      · have hcb := coB_true.1 hco
        have HC := Lib.hid hco
        have hw1 : IntKind.i64.wrap (c1 + x.len) = c1 + x.len := IntWalk.i64_in _ (by omega)
        have HO0 : Hid (-1073741824 ≤ o ∧ o ≤ 1073741824) := by
          by_cases h0 : k = 0
          · subst h0
            have := H.out.2.2.2.2.1
            have e : begF L.els way o 0 = o := rfl
            rw [e] at this
            rw [← this]; exact hcb
          · exact H.out.2.2.2.2.2.2 (by omega)
        have HB : Hid (c1 + x.len = begF L.els way o (k + 1)) := by
          show _ = _
          rw [begF_succ HS.out, ← H.out.2.2.2.2.1, HXE.out]
        clear hco
        go_upto_region 15 with (first
          | (go_at_call 20; refine (to_after (need_any x.kind sin sout _ (HT.out.keep E4.out))).mono ?_; rw [HN.out]; rintro e w' ⟨y, rfl, rfl⟩)
          | (go_at_call 21; refine (pco_any c1 _).mono ?_; rw [HC.out]; rintro e w' ⟨rfl, rfl⟩))
        have EY : Hid (Ext w y.val) := etr E4.out y.is
        have XY : Hid (Ext wr y.val) := etr X4.out y.is
        have CS : Hid (CellsAt y.val wr.heap.size [.int .i64 kE, .int .i64 sin, .int .i64 sout]) := CellsAt.keep (CellsAt.keep (CellsAt.new rfl) (eal (Ext.refl _) _)) y.is
        have CX : Hid (CellsAt y.val (wr.heap.size + 1) (Elc x)) := CellsAt.keep (CellsAt.new (by simp)) y.is
        obtain ⟨w5, hw5⟩ : ∃ w5, w5 = y.val := ⟨_, rfl⟩
        rw [← hw5] at EY XY CS CX ⊢
        clear hw5 l0 a0 a1 a2 a3 a4 a5 l1 l2 s0 s1 s2 hbs hbs1 hbE1 e0 e1 e2 e3 e4 e5 e6 hbE
        have c0 := CS.out.2 0 _ rfl
        have c1' := CS.out.2 1 _ rfl
        have c2 := CS.out.2 2 _ rfl
        have c9 := CS.out.1
        have x0 := CX.out.2 0 _ rfl
        have x1 := CX.out.2 1 _ rfl
        have x2 := CX.out.2 2 _ rfl
        have x3 := CX.out.2 3 _ rfl
        have x4 := CX.out.2 4 _ rfl
        have x5 := CX.out.2 5 _ rfl
        have x6 := CX.out.2 6 _ rfl
        have x9 := CX.out.1
        have hol : (ofTo negW L.els way o k).length = k := by unfold ofTo; rw [ofF_len, List.length_take]; omega
        refine wp_region_head 11 [0, 1, 2, 3, 4, 5, 6, 7, 8, 9] 1 (by kernel_rfl) (by kernel_rfl) (fun _ _ d _ _ h => by cases d <;> exact h) (by kernel_rfl) (by kernel_rfl) (by decide) (by kernel_rfl) rfl ?_
        repeat (refine wpE_step rfl (fun K hK => ?_); go_simp; (first
          | (refine hK _ ?_; clear hK K)
          | (apply Exists.intro
             refine ⟨fun x => ?_, hK _ ?_⟩
             (first
              | (go_at_call 22; exact gradient_any L.els ⟨kE, sin, sout⟩ _ HXE.out _)
              | (go_at_call 23; exact speed_any L.els ⟨kE, sin, sout⟩ _ HXE.out _))
             clear hK K)))
        refine wpE_nil ?_
        intro z
        refine headR_ready (rs := [10]) (by kernel_rfl) (by simp) (AllH.cons (by decide) rfl (fun K hK => ?_) AllH.nil)
        go_simp
        refine hK _ _ (eal (Ext.refl _) _) (fun z2 => ?_)
        clear hK K
        refine headR_tail (by kernel_rfl) ?_
        simp only [List.drop_succ_cons, List.drop_zero]
        have XZ : Hid (Ext wr z2.val) := etr XY.out (etr (eal z.is _) z2.is)
        have CZ : Hid (CellsAt z2.val z.val.heap.size (List.flatMap Sgc [segO negW L.els ⟨kE, sin, sout⟩ c1])) := by
          have : CellsAt z2.val z.val.heap.size [.int .i64 c1, .int .i64 (c1 + x.len), .int .i64 (gradV negW L.els ⟨kE, sin, sout⟩), .int .i64 (spdV L.els ⟨kE, sin, sout⟩)] := CellsAt.keep (CellsAt.new rfl) z2.is
          have e : List.flatMap Sgc [segO negW L.els ⟨kE, sin, sout⟩ c1] = [.int .i64 c1, .int .i64 (c1 + (elAt L.els (kE : Int)).len), .int .i64 (gradV negW L.els ⟨kE, sin, sout⟩), .int .i64 (spdV L.els ⟨kE, sin, sout⟩)] := rfl
          show CellsAt _ _ _
          rw [e, HXE.out]
          exact this
        have HOL := Lib.hid hol
        clear hol
        go_wp2_with (at_builtin
                     refine wp_appL (u := w) Sgc_len Sgc_one Tryd.underlying34 HII.out hz0 hz1 hz2 rfl (by decide) rfl rfl rfl (H.out.2.2.1.keep XZ.out) (etr H.out.1 XZ.out) [segO negW L.els ⟨kE, sin, sout⟩ c1] (some ⟨z.val.heap.size, 0, none⟩) 1 (by simp [go_sem]) (rd_cells Sgc_len CZ.out) (by rw [HOL.out]; simp; omega) (by rw [HOL.out]; unfold maxLen; simp; omega) ?_
                     intro v6 w6 H6)
        have HOW : Hid (OwnL w6 w.heap.size 41 4 Sgc v6 (ofTo negW L.els way o (k + 1))) := by
          show OwnL _ _ _ _ _ _ _
          rw [ofTo_succ negW HS.out, ← H.out.2.2.2.2.1]
          exact H6.out.1
        go_roundg (way.length - (k + 1))
        case measure => have := HG.out; omega
        case rel => exact ⟨k + 1, c1 + x.len, by go_num, rfl, by omega, rfl, H6.out.2.1, (H.out.2.1.keep XZ.out).grown H6.out.2.2.1 H.out.2.2.2.1, HOW.out, H6.out.2.2.2 _ H.out.2.2.2.1 (Nat.lt_of_lt_of_le H.out.2.1.1 XZ.out.size), HB.out, H.out.2.2.2.2.2.1.succ HS.out HOKS.out, fun _ => HO0.out⟩
    · have e : k = way.length := by omega
      subst e
      obtain ⟨q, hq⟩ : ∃ q, q = ofTo negW L.els way o way.length := ⟨_, rfl⟩
      have hqf : q = ofF negW L.els way o := by rw [hq]; unfold ofTo; rw [List.take_length]
      have hOW := H.out.2.2.1
      rw [← hq] at hOW
      obtain ⟨A7, c7, rfl, hr7, hm7⟩ := hOW.rd Sgc_len
      have HR7 := Lib.hid hr7
      have HM7 := Lib.hid hm7
      have HQF := Lib.hid hqf
      have HH := Lib.hid (And.intro H.out.1 H.out.2.2.2.2.2)
      have HOKA : Hid (OfOk L.els way) := fun i s hs => H.out.2.2.2.2.2.1 i s (List.getElem?_eq_some_iff.1 hs).1 hs
      have HCO : Hid (way = [] ∨ (-1073741824 ≤ o ∧ o ≤ 1073741824)) := by
        by_cases h0 : way = []
        · exact .inl h0
        · exact .inr (H.out.2.2.2.2.2.2 (List.length_pos_iff.2 h0))
      clear hr7 hm7 hqf hq hOW
      cases hv : validB q
      · have HV : Hid (ofL negW L.els way o = []) := ofL_inv negW (by rw [← HQF.out]; exact validB_false.1 hv)
        have HVB := Lib.hid hv
        clear hv
        go_wp2_with (go_at_call 10; refine (valid_any A7 q c7 _ HM7.out HR7.out).mono ?_; rw [HVB.out]; rintro e w8 ⟨rfl, hb⟩; have H8 := Lib.hid hb; clear hb)
        go_ret
        exact RetP.nil HV.out (etr HH.out.1 H8.out)
      · have HV : Hid (ofL negW L.els way o = q) := by
          show _ = _
          rw [HQF.out]
          exact ofL_yes negW hwl HCO.out HOKA.out (by rw [← HQF.out]; exact validB_true.1 hv)
        have HVB := Lib.hid hv
        clear hv
        go_wp2_with (go_at_call 10; refine (valid_any A7 q c7 _ HM7.out HR7.out).mono ?_; rw [HVB.out]; rintro e w8 ⟨rfl, hb⟩; have H8 := Lib.hid hb; clear hb)
        go_ret
        rw [HV.out]
        exact ⟨A7, c7, rfl, HR7.out.keep H8.out, etr HH.out.1 H8.out⟩
end Go.Proofs.YtoodehilgogomaaDoor
