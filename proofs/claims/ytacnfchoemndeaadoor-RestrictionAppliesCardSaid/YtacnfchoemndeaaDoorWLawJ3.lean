/- Walk of the law RestrictionApplies; the opener of a Case. -/
import Derived.Test.YtacnfchoemndeaaDoorWChkG
set_option linter.unusedVariables false
set_option linter.unusedSimpArgs false
set_option maxRecDepth 100000
namespace Go.Proofs.YtacnfchoemndeaaDoor
open Go.ChangeShapes Go.WideShapes Go.ChangeAt Go.RowKit
open Sg

section
variable {H : Type} {enc : TypeId × Value → H} {w : World} {base b0 : Nat} {spare : Nat → Bool} {held : Bool} {r : Reach} {v : Value} {d : DataW H} {ps : List MemPlace}
theorem leaf_sgm {c : Value} (h : Leaf enc Tryd.prog w base spare held 43 c) : ∃ A xs cap, c = .slice A (List.length xs) cap ∧ Rd w A 4 Sgc xs ∧ xs.length ≤ maxLen ∧ xs.length ≤ cap ∧ ∀ (i : Nat) (x : Sgm), xs[i]? = some x → True :=
  leaf_slice (n := 3) (en := Sgc) (Q := fun _ => True) Tryd.underlying43 (l := [3, 3, 3, 3]) (by kernel_rfl) (by decide) (fun cs hl => by
    obtain ⟨c0, r0, rfl, l0, hl⟩ := leaves_cons hl
    obtain ⟨c1, r1, rfl, l1, hl⟩ := leaves_cons hl
    obtain ⟨c2, r2, rfl, l2, hl⟩ := leaves_cons hl
    obtain ⟨c3, r3, rfl, l3, hl⟩ := leaves_cons hl
    obtain rfl := leaves_nil hl
    obtain ⟨v0, rfl, _⟩ := leaf_i64 Tryd.underlying3 l0
    obtain ⟨v1, rfl, _⟩ := leaf_i64 Tryd.underlying3 l1
    obtain ⟨v2, rfl, _⟩ := leaf_i64 Tryd.underlying3 l2
    obtain ⟨v3, rfl, _⟩ := leaf_i64 Tryd.underlying3 l3
    exact ⟨⟨v0, v1, v2, v3⟩, rfl, trivial⟩) h
theorem open_case (hv : Value.okWide Tryd.prog w r b0 45 v) (h : DataW.Trod enc Tryd.prog w base spare held 45 v d ps) : ∃ A way c o B p cp, v = .agg #[.slice A (List.length way) c, .int .i64 o, .slice B (List.length p) cp] ∧ Rd w A 3 Stc way ∧ way.length ≤ maxLen ∧ way.length ≤ c ∧ Rd w B 4 Sgc p ∧ p.length ≤ maxLen ∧ p.length ≤ cp := by
  obtain ⟨cs, rfl, hL⟩ := open_flat (n := 3) (l := [42, 3, 43]) Tryd.underlying45 (by kernel_rfl) hv h
  obtain ⟨c0, r0, rfl, l0, hL⟩ := leaves_cons hL
  obtain ⟨c1, r1, rfl, l1, hL⟩ := leaves_cons hL
  obtain ⟨c2, r2, rfl, l2, hL⟩ := leaves_cons hL
  obtain rfl := leaves_nil hL
  obtain ⟨A, way, c, rfl, g1, g2, g3, _⟩ := leaf_sts l0
  obtain ⟨o, rfl, _⟩ := leaf_i64 Tryd.underlying3 l1
  obtain ⟨B, p, cp, rfl, k1, k2, k3, _⟩ := leaf_sgm l2
  exact ⟨A, way, c, o, B, p, cp, rfl, g1, g2, g3, k1, k2, k3⟩
end
abbrev CaseAt (w : World) (b : Nat) (A : Option Addr) (way : List Stp) (c : Nat) (o : Int) (B : Option Addr) (p : List Sgm) (cp : Nat) : Prop := CellsAt w b [.slice A way.length c, .int .i64 o, .slice B p.length cp]
theorem caseAt_cells {w : World} {b : Nat} {A : Option Addr} {way : List Stp} {c : Nat} {o : Int} {B : Option Addr} {p : List Sgm} {cp : Nat} (h : CaseAt w b A way c o B p cp) : b < w.heap.size ∧ w.cell? ⟨b, 0, none⟩ = some (.slice A way.length c) ∧ w.cell? ⟨b, 1, none⟩ = some (.int .i64 o) ∧ w.cell? ⟨b, 2, none⟩ = some (.slice B p.length cp) := ⟨h.1, h.2 0 _ rfl, h.2 1 _ rfl, h.2 2 _ rfl⟩
set_option maxHeartbeats 16000000 in
theorem law_applies (L : Lay) (Al : Option Addr) (l : List Rst) (cl : Nat) (A : Option Addr) (way : List Stp) (c : Nat) (o : Int) (B : Option Addr) (p : List Sgm) (cp : Nat) (w : World) (hT : Tabs w) (hL : LayOk w L) (hl : Rd w Al 6 Rsc l) (hlm : l.length ≤ maxLen) (hr : Rd w A 3 Stc way) (hm : way.length ≤ maxLen) (hc : way.length ≤ c) (hp : Rd w B 4 Sgc p) (hpm : p.length ≤ maxLen) :
    Calls Tryd.prog 5 #[.agg #[.string L.name, .slice L.aS L.secs.length L.cS, .slice L.aE L.els.length L.cE, .slice L.aJ L.jts.length L.cJ, .slice L.aG L.sgs.length L.cG, .slice L.aB L.bals.length L.cB], .slice Al l.length cl, .agg #[.slice A way.length c, .int .i64 o, .slice B p.length cp]] w fun e w' => e = .returned (.bool true) ∧ Below w.heap.size w w' := by
  have HT := Lib.hid hT
  have HL := Lib.hid hL
  have HRL := Lib.hid (And.intro hl hlm)
  have HR := Lib.hid (And.intro hr (And.intro hm hc))
  have HP := Lib.hid (And.intro hp hpm)
  clear hT hL hl hlm hr hm hc hp hpm
  have E0 : Hid (Ext w ((w.alloc (.cells #[.string L.name, .slice L.aS L.secs.length L.cS, .slice L.aE L.els.length L.cE, .slice L.aJ L.jts.length L.cJ, .slice L.aG L.sgs.length L.cG, .slice L.aB L.bals.length L.cB] 28)).alloc (.cells #[.slice A way.length c, .int .i64 o, .slice B p.length cp] 45))) := eal (eal (Ext.refl _) _) _
  have L0 : Hid (LayAt ((w.alloc (.cells #[.string L.name, .slice L.aS L.secs.length L.cS, .slice L.aE L.els.length L.cE, .slice L.aJ L.jts.length L.cJ, .slice L.aG L.sgs.length L.cG, .slice L.aB L.bals.length L.cB] 28)).alloc (.cells #[.slice A way.length c, .int .i64 o, .slice B p.length cp] 45)) w.heap.size L) := CellsAt.keep (CellsAt.new rfl) (eal (Ext.refl _) _)
  have C0 : Hid (CaseAt ((w.alloc (.cells #[.string L.name, .slice L.aS L.secs.length L.cS, .slice L.aE L.els.length L.cE, .slice L.aJ L.jts.length L.cJ, .slice L.aG L.sgs.length L.cG, .slice L.aB L.bals.length L.cB] 28)).alloc (.cells #[.slice A way.length c, .int .i64 o, .slice B p.length cp] 45)) (w.heap.size + 1) A way c o B p cp) := CellsAt.new (by simp)
  go_enter Tryd.func5, Tryd.ntmps5
  go_upto_region 2 with (go_at_call 17; refine (few_law L Al l cl A way c o B p cp _ (HL.out.keep E0.out)).mono ?_; rintro e w1 ⟨bb, rfl, hq, hb⟩; have H1 := Lib.hid hb; have HQ := Lib.hid hq; clear hb hq; cases bb)
  · go_wp2_with (go_at_call 9; refine (alive_any _ (HT.out.keep (etr E0.out H1.out))).mono ?_; rintro e w2 ⟨rfl, hb⟩; have H2 := Lib.hid hb; clear hb)
    go_ret
    exact ⟨rfl, etr (etr E0.out H1.out) H2.out⟩
  have HFP : Hid (FewP L l way p) := HQ.out (by simp)
  obtain ⟨q, hq⟩ : ∃ q, q = appL L.els L.jts l way o p := ⟨_, rfl⟩
  have HAPP : Hid (∀ w', Ext w w' → Calls Tryd.prog 19 #[.slice Al l.length cl, .slice A way.length c, .int .i64 o, .agg #[.string L.name, .slice L.aS L.secs.length L.cS, .slice L.aE L.els.length L.cE, .slice L.aJ L.jts.length L.cJ, .slice L.aG L.sgs.length L.cG, .slice L.aB L.bals.length L.cB], .slice B p.length cp] w' fun e w'' => ∃ A' cap', e = .returned (.slice A' q.length cap') ∧ Rd w'' A' 4 Sgc q ∧ q.length ≤ 1000000 ∧ Below w'.heap.size w' w'') := fun w' h => by
    rw [hq]
    exact apply_any L Al l cl A way c o B p cp w' (HL.out.keep h) (HT.out.keep h) HFP.out.2.2.2.2 (HRL.out.1.keep h) HRL.out.2 (HR.out.1.keep h) HR.out.2.1 HR.out.2.2 (HP.out.1.keep h) (by have := HFP.out.2.2.2.1; omega)
  have HRAP : Hid (∀ w', Ext w w' → Calls Tryd.prog 20 #[.slice Al l.length cl, .slice A way.length c, .int .i64 o, .agg #[.string L.name, .slice L.aS L.secs.length L.cS, .slice L.aE L.els.length L.cE, .slice L.aJ L.jts.length L.cJ, .slice L.aG L.sgs.length L.cG, .slice L.aB L.bals.length L.cB], .slice B p.length cp] w' fun e w'' => ∃ A' cap', e = .returned (.slice A' q.length cap') ∧ Rd w'' A' 4 Sgc q ∧ q.length ≤ 1000000 ∧ Below w'.heap.size w' w'') := fun w' h => by
    rw [hq]
    exact rapply_any L Al l cl A way c o B p cp w' (HL.out.keep h) HFP.out.2.2.2.2 (HRL.out.1.keep h) HRL.out.2 (HR.out.1.keep h) HR.out.2.1 (HP.out.1.keep h) (by have := HFP.out.2.2.2.1; omega)
  have hsame : sameL q q = true := sameL_true.2 rfl
  have HSS := Lib.hid hsame
  clear hq hsame
  have E1 : Hid (Ext w w1) := etr E0.out H1.out
  obtain ⟨l0, a0, a1, a2, a3, a4, a5⟩ := layAt_cells (L0.out.keep H1.out)
  obtain ⟨c9, d0, d1, d2⟩ := caseAt_cells (C0.out.keep H1.out)
  go_wp2_with fail
  refine wp_region_mono [0, 1, 2, 3, 4, 5, 6, 7, 9, 10, 11, 12, 13, 14, 15, 16] 7 (by kernel_rfl) (by kernel_rfl) (fun _ _ d _ _ h => by cases d <;> exact h) (by kernel_rfl) (by kernel_rfl) ?_
  repeat (refine wpE_step rfl (fun K hK => ?_); go_simp; (refine hK _ ?_; clear hK K))
  refine wpE_nil ?_
  intro x
  have EX : Hid (Ext w x.val) := etr E1.out x.is
  clear l0 a0 a1 a2 a3 a4 a5 c9 d0 d1 d2
  refine wpAnyR_ready (rs := [8]) (by kernel_rfl) (by simp) (AllR.cons rfl (fun K hK => ?_) AllR.nil)
  · go_simp
    go_wp2_with (go_at_call 19; refine (HAPP.out _ EX.out).mono ?_; rintro e w3 ⟨A3, c3, rfl, hr3, hm3, hb3⟩; have HR3 := Lib.hid hr3; have HM3 := Lib.hid hm3; have HB3 := Lib.hid hb3; clear hr3 hm3 hb3)
    refine hK _ _ HB3.out (fun y => ?_)
    clear hK K
    have EY : Hid (Ext w y.val) := etr (etr EX.out HB3.out) y.is
    refine wpAnyR_ready (rs := [17]) (by kernel_rfl) (by simp) (AllR.cons rfl (fun K hK => ?_) AllR.nil)
    go_simp
    go_wp2_with (go_at_call 20; refine (HRAP.out _ EY.out).mono ?_; rintro e w4 ⟨A4, c4, rfl, hr4, hm4, hb4⟩; have HR4 := Lib.hid hr4; have HM4 := Lib.hid hm4; have HB4 := Lib.hid hb4; clear hr4 hm4 hb4)
    refine hK _ _ HB4.out (fun z => ?_)
    clear hK K
    have EZ : Hid (Ext w z.val) := etr (etr EY.out HB4.out) z.is
    have R3 : Hid (Rd z.val A3 4 Sgc q) := ((HR3.out.keep y.is).keep HB4.out).keep z.is
    have R4 : Hid (Rd z.val A4 4 Sgc q) := HR4.out.keep z.is
    have HML : Hid (q.length ≤ maxLen) := by have := HM3.out; show _ ≤ _; unfold maxLen; omega
    refine wpAnyR_more [18, 19, 20, 21, 22] (fuel := 0) (by kernel_rfl) (fun _ _ d _ _ h => by cases d <;> exact h) (by kernel_rfl) rfl ?_
    repeat (refine wpE_step rfl (fun K hK => ?_); go_simp; (first
      | (refine hK _ ?_; clear hK K)
      | (apply Exists.intro
         refine ⟨fun x => ?_, hK _ ?_⟩
         (first
          | (go_at_call 18; exact HSS.out ▸ same_any A3 A4 q q c3 c4 _ HML.out HML.out (R3.out.keep x.is) (R4.out.keep x.is))
          | (go_at_call 9; exact alive_any _ (HT.out.keep (etr EZ.out x.is))))
         clear hK K)))
    refine wpE_nil ?_
    intro z2
    refine wpAnyR_done (by kernel_rfl) ?_ _
    go_wp2
    go_ret
    exact ⟨rfl, etr EZ.out z2.is⟩
end Go.Proofs.YtacnfchoemndeaaDoor
