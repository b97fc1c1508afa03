/- Walk of signallinglaw51.alive: the chapter's examples hold. Printed by gen_alv5.py. -/
import Derived.Test.YticonpjkcocgeaaDoorWEx5
import Derived.Test.YticonpjkcocgeaaDoorWMotG
import Derived.Test.YticonpjkcocgeaaDoorKAll
set_option linter.unusedVariables false
set_option linter.unusedSimpArgs false
set_option maxRecDepth 100000
namespace Go.Proofs.YticonpjkcocgeaaDoor
open Go.ChangeShapes Go.WideShapes Go.ChangeAt Go.RowKit
open Sg

section
variable {P : Program} {ops : Array Oper} {md : Region.Mode} {Q : Exit → Act → World → Prop}
/-- Quiet operations later in the walk: what is known of the world now stays known. -/
theorem wpAnyB_more (hs : Region.noSelect ops = true) (hQ : ∀ c a (d : Option Nat) v w, Q (.panic c) (a.put d v) w → Q (.panic c) a w) (w0 wb : World) (hwb : Ext w0 wb) :
    ∀ (l : List Nat) (fuel : Nat) (listed : Array Bool) (a : Act), takeB md ops l listed = true →
      wpE P ops w0 (fun a' => ∀ x : After wb, wpAnyB P md ops Q w0.heap.size fuel (listAll l listed) a' x.val) l a → ∀ w, Ext wb w → wpAnyB P md ops Q w0.heap.size (l.length + fuel) listed a w
  | [], fuel, listed, a, _, h, w, hw => by
    have := h ⟨w, hw⟩
    simpa [listAll] using this
  | i :: l, fuel, listed, a, hB, h, w, hw => by
    simp only [takeB, Bool.and_eq_true] at hB
    obtain ⟨⟨hr, hf⟩, hB'⟩ := hB
    rw [List.length_cons, show l.length + 1 + fuel = (l.length + fuel) + 1 by omega]
    have hr' : i ∈ Region.ready md ops listed := by simpa using hr
    obtain ⟨_, o, ho, _⟩ := mem_ready.1 hr'
    unfold wpE at h
    rw [ho] at h
    by_cases hw' : Region.wanted o (yielded ops a.tmps) = true
    · simp only [hw', if_true] at h
      obtain ⟨v, hv, hk⟩ := h
      exact wpAnyB_first ho (Region.noSelect_spec hs) (fun c a w => hQ c a o.dst v w) w0 (l.length + fuel) listed a wb hwb (Region.free_spec ho hf) hr' (.inl ⟨hw', hv⟩)
        (fun w2 h2 => wpAnyB_more hs hQ w0 wb hwb l fuel _ _ hB' hk w2 h2) w hw
    · simp only [hw'] at h
      exact wpAnyB_first ho (Region.noSelect_spec hs) (fun c a w => hQ c a o.dst undef w) w0 (l.length + fuel) listed a wb hwb (Region.free_spec ho hf) hr' (.inr ⟨by simpa using hw', rfl⟩)
        (fun w2 h2 => wpAnyB_more hs hQ w0 wb hwb l fuel _ _ hB' h w2 h2) w hw
end
section
set_option maxHeartbeats 16000000
theorem alvS1 (L : Lay) (A : Option Addr) (c : Nat) (B : Option Addr) (cb : Nat) (K : Option Addr) (ck : Nat) (w : World) (hL : LayOk w L) (hT : Tabs w) (hE : L.els = line5E) (hJ : L.jts = line5J) (hr : Rd w A 3 Stc exS) : Calls Tryd.prog 17 #[.agg #[.string L.name, .slice L.aS L.secs.length L.cS, .slice L.aE L.els.length L.cE, .slice L.aJ L.jts.length L.cJ, .slice L.aG L.sgs.length L.cG, .slice L.aB L.bals.length L.cB], .slice none 0 0, .agg #[.slice A 1 c, .int .i64 15000, .int .i64 5000, .int .i64 0, .int .i64 0, .int .i64 0, .int .i64 1, .string ⟨#[110]⟩, .int .i64 5000, .int .i64 3000, .int .i64 100, .int .i64 50, .int .i64 100, .int .i64 1, .int .i64 0, .int .i64 0, .int .i64 0, .int .i64 0, .int .i64 0, .int .i64 0, .int .i64 0, .int .i64 0, .int .i64 0, .int .i64 0, .slice B 0 cb, .slice K 0 ck, .int .i64 0, .int .i64 0, .int .i64 0, .int .i64 0, .bool false, .int .i64 0], .int .i64 1000] w fun e w' => ∃ A' c' B' cb' K' ck', e = .returned (.tuple #[.agg #[.slice A' 1 c', .int .i64 15100, .int .i64 5000, .int .i64 100, .int .i64 100, .int .i64 0, .int .i64 1, .string ⟨#[110]⟩, .int .i64 5000, .int .i64 3000, .int .i64 100, .int .i64 50, .int .i64 100, .int .i64 1, .int .i64 0, .int .i64 0, .int .i64 0, .int .i64 0, .int .i64 0, .int .i64 0, .int .i64 0, .int .i64 0, .int .i64 0, .int .i64 0, .slice B' 0 cb', .slice K' 0 ck', .int .i64 0, .int .i64 0, .int .i64 0, .int .i64 0, .bool false, .int .i64 0], .int .i64 100, .bool false]) ∧ Rd w' A' 3 Stc exS ∧ Below w.heap.size w w' := by
  have e : stepV L.els L.jts [] (exC 0).T (exC 0).brake exS 15000 5000 0 0 0 1000 = ⟨exS, 15100, 100, 100, 0, 100, false⟩ := by rw [hE, hJ]; exact ex5_step1
  have := step_any L none [] 0 A exS c 15000 5000 0 0 0 (exC 0) B cb K ck 1000 w hL hT (by rw [hE]; exact ex5_els) (by rw [hE, hJ]; exact ex5_jts) (by rw [hE]; decide) RdI.nil (by decide) hr (by decide) Rd.nil (by decide) Rd.nil (by decide) (by decide)
  rw [e] at this
  refine this.mono ?_
  rintro e w' ⟨A', c', B', cb', K', ck', rfl, h1, _, _, h4⟩
  exact ⟨A', c', B', cb', K', ck', rfl, h1.1, h4⟩
theorem alvS2 (L : Lay) (A : Option Addr) (c : Nat) (B : Option Addr) (cb : Nat) (K : Option Addr) (ck : Nat) (w : World) (hL : LayOk w L) (hT : Tabs w) (hE : L.els = line5E) (hJ : L.jts = line5J) (hr : Rd w A 3 Stc exS) : Calls Tryd.prog 17 #[.agg #[.string L.name, .slice L.aS L.secs.length L.cS, .slice L.aE L.els.length L.cE, .slice L.aJ L.jts.length L.cJ, .slice L.aG L.sgs.length L.cG, .slice L.aB L.bals.length L.cB], .slice none 0 0, .agg #[.slice A 1 c, .int .i64 15000, .int .i64 5000, .int .i64 200, .int .i64 0, .int .i64 0, .int .i64 1, .string ⟨#[110]⟩, .int .i64 5000, .int .i64 3000, .int .i64 100, .int .i64 50, .int .i64 100, .int .i64 1, .int .i64 0, .int .i64 0, .int .i64 0, .int .i64 2, .int .i64 0, .int .i64 0, .int .i64 0, .int .i64 0, .int .i64 0, .int .i64 0, .slice B 0 cb, .slice K 0 ck, .int .i64 0, .int .i64 0, .int .i64 0, .int .i64 0, .bool false, .int .i64 0], .int .i64 1000] w fun e w' => ∃ A' c' B' cb' K' ck', e = .returned (.tuple #[.agg #[.slice A' 1 c', .int .i64 15200, .int .i64 5000, .int .i64 200, .int .i64 200, .int .i64 1, .int .i64 1, .string ⟨#[110]⟩, .int .i64 5000, .int .i64 3000, .int .i64 100, .int .i64 50, .int .i64 100, .int .i64 1, .int .i64 0, .int .i64 0, .int .i64 0, .int .i64 2, .int .i64 0, .int .i64 0, .int .i64 0, .int .i64 0, .int .i64 0, .int .i64 0, .slice B' 0 cb', .slice K' 0 ck', .int .i64 0, .int .i64 0, .int .i64 0, .int .i64 0, .bool false, .int .i64 0], .int .i64 200, .bool false]) ∧ Rd w' A' 3 Stc exS ∧ Below w.heap.size w w' := by
  have e : stepV L.els L.jts [] (exC 2).T (exC 2).brake exS 15000 5000 200 0 0 1000 = ⟨exS, 15200, 200, 200, 1, 200, false⟩ := by rw [hE, hJ]; exact ex5_step2
  have := step_any L none [] 0 A exS c 15000 5000 200 0 0 (exC 2) B cb K ck 1000 w hL hT (by rw [hE]; exact ex5_els) (by rw [hE, hJ]; exact ex5_jts) (by rw [hE]; decide) RdI.nil (by decide) hr (by decide) Rd.nil (by decide) Rd.nil (by decide) (by decide)
  rw [e] at this
  refine this.mono ?_
  rintro e w' ⟨A', c', B', cb', K', ck', rfl, h1, _, _, h4⟩
  exact ⟨A', c', B', cb', K', ck', rfl, h1.1, h4⟩
theorem alvS3 (L : Lay) (A : Option Addr) (c : Nat) (B : Option Addr) (cb : Nat) (K : Option Addr) (ck : Nat) (w : World) (hL : LayOk w L) (hT : Tabs w) (hE : L.els = line5E) (hJ : L.jts = line5J) (hr : Rd w A 3 Stc exS) : Calls Tryd.prog 17 #[.agg #[.string L.name, .slice L.aS L.secs.length L.cS, .slice L.aE L.els.length L.cE, .slice L.aJ L.jts.length L.cJ, .slice L.aG L.sgs.length L.cG, .slice L.aB L.bals.length L.cB], .slice none 0 0, .agg #[.slice A 1 c, .int .i64 15200, .int .i64 5000, .int .i64 200, .int .i64 200, .int .i64 1, .int .i64 1, .string ⟨#[110]⟩, .int .i64 5000, .int .i64 3000, .int .i64 100, .int .i64 50, .int .i64 100, .int .i64 1, .int .i64 0, .int .i64 0, .int .i64 0, .int .i64 2, .int .i64 0, .int .i64 0, .int .i64 0, .int .i64 0, .int .i64 0, .int .i64 0, .slice B 0 cb, .slice K 0 ck, .int .i64 0, .int .i64 0, .int .i64 0, .int .i64 0, .bool false, .int .i64 0], .int .i64 1000] w fun e w' => ∃ A' c' B' cb' K' ck', e = .returned (.tuple #[.agg #[.slice A' 1 c', .int .i64 15300, .int .i64 5000, .int .i64 100, .int .i64 300, .int .i64 2, .int .i64 1, .string ⟨#[110]⟩, .int .i64 5000, .int .i64 3000, .int .i64 100, .int .i64 50, .int .i64 100, .int .i64 1, .int .i64 0, .int .i64 0, .int .i64 0, .int .i64 2, .int .i64 0, .int .i64 0, .int .i64 0, .int .i64 0, .int .i64 0, .int .i64 0, .slice B' 0 cb', .slice K' 0 ck', .int .i64 0, .int .i64 0, .int .i64 0, .int .i64 0, .bool false, .int .i64 0], .int .i64 100, .bool false]) ∧ Rd w' A' 3 Stc exS ∧ Below w.heap.size w w' := by
  have e : stepV L.els L.jts [] (exC 2).T (exC 2).brake exS 15200 5000 200 200 1 1000 = ⟨exS, 15300, 100, 300, 2, 100, false⟩ := by rw [hE, hJ]; exact ex5_step3
  have := step_any L none [] 0 A exS c 15200 5000 200 200 1 (exC 2) B cb K ck 1000 w hL hT (by rw [hE]; exact ex5_els) (by rw [hE, hJ]; exact ex5_jts) (by rw [hE]; decide) RdI.nil (by decide) hr (by decide) Rd.nil (by decide) Rd.nil (by decide) (by decide)
  rw [e] at this
  refine this.mono ?_
  rintro e w' ⟨A', c', B', cb', K', ck', rfl, h1, _, _, h4⟩
  exact ⟨A', c', B', cb', K', ck', rfl, h1.1, h4⟩
theorem alvR (L : Lay) (A : Option Addr) (c : Nat) (B : Option Addr) (d : Nat) (w : World) (hL : LayOk w L) (hT : Tabs w) (hE : L.els = line5E) (hJ : L.jts = line5J) (hB : L.bals = line5B) (ha : Rd w A 3 Stc exS) (hb : Rd w B 3 Stc exS2) (hc : 1 ≤ c := by decide) (hd : 2 ≤ d := by decide) : Calls Tryd.prog 11 #[.agg #[.string L.name, .slice L.aS L.secs.length L.cS, .slice L.aE L.els.length L.cE, .slice L.aJ L.jts.length L.cJ, .slice L.aG L.sgs.length L.cG, .slice L.aB L.bals.length L.cB], .agg #[.slice A 1 c, .int .i64 19900, .int .i64 5000], .agg #[.slice B 2 d, .int .i64 200, .int .i64 5000]] w fun e w' => ∃ A' c', e = .returned (.slice A' 2 c') ∧ Rd w' A' 2 Rec [⟨4, 200⟩, ⟨8, 150⟩] ∧ Below w.heap.size w w' := by
  have e : readsV L.els L.jts L.bals exS 19900 5000 exS2 200 5000 = [⟨4, 200⟩, ⟨8, 150⟩] := by rw [hE, hJ, hB]; exact ex5_reads
  have := reads_any 19 sort_few L A exS c 19900 5000 B exS2 d 200 5000 w hL hT (by rw [hE]; exact ex5_els) (by rw [hE, hB]; exact ex5_bals) (by rw [hB]; decide) ha (by decide) hc hb (by decide) hd (by rw [hE, hB, ex5_passA]; decide)
  rw [e] at this
  exact this
theorem alvG (L : Lay) (B : Option Addr) (d : Nat) (w : World) (hL : LayOk w L) (hT : Tabs w) (hE : L.els = line5E) (hJ : L.jts = line5J) (hb : Rd w B 3 Stc exS2) (hd : 2 ≤ d := by decide) : Calls Tryd.prog 22 #[.agg #[.string L.name, .slice L.aS L.secs.length L.cS, .slice L.aE L.els.length L.cE, .slice L.aJ L.jts.length L.cJ, .slice L.aG L.sgs.length L.cG, .slice L.aB L.bals.length L.cB], .agg #[.slice B 2 d, .int .i64 200, .int .i64 5000]] w fun e w' => e = .returned (.int .i64 0) ∧ Below w.heap.size w w' := by
  have e : gradV L.els L.jts exS2 200 5000 = 0 := by rw [hE, hJ]; exact ex5_grade2
  have := grade_any L B exS2 d 200 5000 w hL hT (by rw [hE]; exact ex5_els) hb (by decide) hd
  rw [e] at this
  exact this
theorem alive5_any (w : World) (hT : Tabs w) : Calls Tryd.prog 9 #[] w fun e w' => e = .returned (.bool true) ∧ Below w.heap.size w w' := by
  have HT := Lib.hid hT
  clear hT
  go_enter Tryd.func9, Tryd.ntmps9
  go_wp2_with fail
  refine (line5_any _).mono ?_
  rintro e pa ⟨L1, rfl, hL, hE, hJ, hB, hb⟩
  have HLa := Lib.hid hL
  have HEa := Lib.hid hE
  have HJa := Lib.hid hJ
  have HXa := Lib.hid hb
  clear hL hE hJ hB hb
  go_wp2_with fail
  refine (unit_any 15000 0 0 _).mono ?_
  rintro e pb ⟨bu, rfl, hr, hb⟩
  have HRb := Lib.hid hr
  have HLb := Lib.hid (HLa.out.keep hb)
  have HXb := Lib.hid (etr HXa.out hb)
  clear hr hb
  go_wp2_with fail
  refine (alvS1 L1 (some ⟨bu, 0, none⟩) 1 none 0 none 0 _ HLb.out (HT.out.keep HXb.out) HEa.out HJa.out HRb.out).mono ?_
  rintro e pc ⟨A1, c1, B1, cb1, K1, ck1, rfl, hr, hb⟩
  have HR1 := Lib.hid hr
  have HXc := Lib.hid (etr HXb.out hb)
  clear hr hb HLa HEa HJa HLb HRb HXa HXb
  go_upto_region 2 with (first | (refine wp_stN 49 [.slice A1 1 c1, .int .i64 15100, .int .i64 5000, .int .i64 100, .int .i64 100, .int .i64 0, .int .i64 1, .string ⟨#[110]⟩, .int .i64 5000, .int .i64 3000, .int .i64 100, .int .i64 50, .int .i64 100, .int .i64 1, .int .i64 0, .int .i64 0, .int .i64 0, .int .i64 0, .int .i64 0, .int .i64 0, .int .i64 0, .int .i64 0, .int .i64 0, .int .i64 0, .slice B1 0 cb1, .slice K1 0 ck1, .int .i64 0, .int .i64 0, .int .i64 0, .int .i64 0, .bool false, .int .i64 0] [.slice A1 1 c1, .int .i64 15100, .int .i64 5000, .int .i64 100, .int .i64 100, .int .i64 0, .int .i64 1, .string ⟨#[110]⟩, .int .i64 5000, .int .i64 3000, .int .i64 100, .int .i64 50, .int .i64 100, .int .i64 1, .int .i64 0, .int .i64 0, .int .i64 0, .int .i64 0, .int .i64 0, .int .i64 0, .int .i64 0, .int .i64 0, .int .i64 0, .int .i64 0, .slice B1 0 cb1, .slice K1 0 ck1, .int .i64 0, .int .i64 0, .int .i64 0, .int .i64 0, .bool false, .int .i64 0] rfl rfl rfl (Own.new (w := pc) (cs := #[.slice none 0 0, .int .i64 0, .int .i64 0, .int .i64 0, .int .i64 0, .int .i64 0, .int .i64 0, .string ⟨#[]⟩, .int .i64 0, .int .i64 0, .int .i64 0, .int .i64 0, .int .i64 0, .int .i64 0, .int .i64 0, .int .i64 0, .int .i64 0, .int .i64 0, .int .i64 0, .int .i64 0, .int .i64 0, .int .i64 0, .int .i64 0, .int .i64 0, .slice none 0 0, .slice none 0 0, .int .i64 0, .int .i64 0, .int .i64 0, .int .i64 0, .bool false, .int .i64 0]) (t := 49) rfl) rfl szUnt rfl (by show (0 + 32 : Nat) ≤ 32; decide) rfl ?_; intro p Hp))
  have gp : Ext pc p := eonly (eal (Ext.refl _) _) Hp.out.2 (Nat.le_refl _)
  have HXp := Lib.hid (etr HXc.out gp)
  have HO1 := Lib.hid Hp.out.1
  have HR1' := Lib.hid (HR1.out.keep gp)
  clear gp Hp HXc HR1
  go_wp2_with fail
  refine (line5_any _).mono ?_
  rintro e qa ⟨L2, rfl, hL, hE, hJ, hB, hb⟩
  have HLa := Lib.hid hL
  have HEa := Lib.hid hE
  have HJa := Lib.hid hJ
  have HXa := Lib.hid (etr HXp.out hb)
  have HO1a := Lib.hid (HO1.out.keep hb)
  clear hL hE hJ hB hb
  go_wp2_with fail
  refine (unit_any 15000 200 2 _).mono ?_
  rintro e qb ⟨bu, rfl, hr, hb⟩
  have HRb := Lib.hid hr
  have HLb := Lib.hid (HLa.out.keep hb)
  have HXb := Lib.hid (etr HXa.out hb)
  have HO1b := Lib.hid (HO1a.out.keep hb)
  clear hr hb
  go_wp2_with fail
  refine (alvS2 L2 (some ⟨bu, 0, none⟩) 1 none 0 none 0 _ HLb.out (HT.out.keep HXb.out) HEa.out HJa.out HRb.out).mono ?_
  rintro e qc ⟨A2, c2, B2, cb2, K2, ck2, rfl, hr, hb⟩
  have HR2 := Lib.hid hr
  have HXc := Lib.hid (etr HXb.out hb)
  have HO1c := Lib.hid (HO1b.out.keep hb)
  clear hr hb HLa HEa HJa HLb HRb HXa HXb
  go_upto_region 3 with (first | (refine wp_stN 49 [.slice A2 1 c2, .int .i64 15200, .int .i64 5000, .int .i64 200, .int .i64 200, .int .i64 1, .int .i64 1, .string ⟨#[110]⟩, .int .i64 5000, .int .i64 3000, .int .i64 100, .int .i64 50, .int .i64 100, .int .i64 1, .int .i64 0, .int .i64 0, .int .i64 0, .int .i64 2, .int .i64 0, .int .i64 0, .int .i64 0, .int .i64 0, .int .i64 0, .int .i64 0, .slice B2 0 cb2, .slice K2 0 ck2, .int .i64 0, .int .i64 0, .int .i64 0, .int .i64 0, .bool false, .int .i64 0] [.slice A2 1 c2, .int .i64 15200, .int .i64 5000, .int .i64 200, .int .i64 200, .int .i64 1, .int .i64 1, .string ⟨#[110]⟩, .int .i64 5000, .int .i64 3000, .int .i64 100, .int .i64 50, .int .i64 100, .int .i64 1, .int .i64 0, .int .i64 0, .int .i64 0, .int .i64 2, .int .i64 0, .int .i64 0, .int .i64 0, .int .i64 0, .int .i64 0, .int .i64 0, .slice B2 0 cb2, .slice K2 0 ck2, .int .i64 0, .int .i64 0, .int .i64 0, .int .i64 0, .bool false, .int .i64 0] rfl rfl rfl (Own.new (w := qc) (cs := #[.slice none 0 0, .int .i64 0, .int .i64 0, .int .i64 0, .int .i64 0, .int .i64 0, .int .i64 0, .string ⟨#[]⟩, .int .i64 0, .int .i64 0, .int .i64 0, .int .i64 0, .int .i64 0, .int .i64 0, .int .i64 0, .int .i64 0, .int .i64 0, .int .i64 0, .int .i64 0, .int .i64 0, .int .i64 0, .int .i64 0, .int .i64 0, .int .i64 0, .slice none 0 0, .slice none 0 0, .int .i64 0, .int .i64 0, .int .i64 0, .int .i64 0, .bool false, .int .i64 0]) (t := 49) rfl) rfl szUnt rfl (by show (0 + 32 : Nat) ≤ 32; decide) rfl ?_; intro q Hq))
  have gq : Ext qc q := eonly (eal (Ext.refl _) _) Hq.out.2 (Nat.le_refl _)
  have HXq := Lib.hid (etr HXc.out gq)
  have HO2 := Lib.hid Hq.out.1
  have HR2' := Lib.hid (HR2.out.keep gq)
  have HO1d := Lib.hid (HO1c.out.keep gq)
  clear HO1a HO1b HO1c
  clear gq Hq HXc HR2
  refine wp_region_monoB [1] 10 (by kernel_rfl) (by kernel_rfl) (fun _ _ d _ _ h => by cases d <;> exact h) (by kernel_rfl) (by kernel_rfl) ?_
  refine wE_ldN 49 [.slice A2 1 c2, .int .i64 15200, .int .i64 5000, .int .i64 200, .int .i64 200, .int .i64 1, .int .i64 1, .string ⟨#[110]⟩, .int .i64 5000, .int .i64 3000, .int .i64 100, .int .i64 50, .int .i64 100, .int .i64 1, .int .i64 0, .int .i64 0, .int .i64 0, .int .i64 2, .int .i64 0, .int .i64 0, .int .i64 0, .int .i64 0, .int .i64 0, .int .i64 0, .slice B2 0 cb2, .slice K2 0 ck2, .int .i64 0, .int .i64 0, .int .i64 0, .int .i64 0, .bool false, .int .i64 0] rfl rfl rfl rfl HO2.out.cells Tryd.underlying49 szUnt rfl ?_
  refine wpE_nil ?_
  intro x
  have HQQ : Hid (Ext q q) := Ext.refl _
  have HN1 := Lib.hid HO1d.out.1
  have HN2 := Lib.hid HO2.out.1
  have HN3 := Lib.hid HXq.out.size
  have fX1 := Lib.hid (etr HXq.out (x.is))
  have fA2 := Lib.hid (HO1d.out.keep (x.is))
  have fB3 := Lib.hid (HO2.out.keep (x.is))
  have fR4 := Lib.hid (HR2'.out.keep (x.is))
  have fQ5 := Lib.hid (etr HQQ.out (x.is))
  clear HXq HO1d HO2 HR2' HQQ
  refine wpAnyB_ready (rs := [0, 7]) (by kernel_rfl) (by simp) (AllB.cons rfl (fun K hK => ?_) (AllB.cons rfl (fun K hK => ?_) (AllB.nil)))
  · go_simp
    go_wp2_with fail
    refine (line5_any _).mono ?_
    rintro e ra ⟨L3, rfl, hL, hE, hJ, hB, hb⟩
    have HE3 := Lib.hid hE
    have HJ3 := Lib.hid hJ
    have hbq := Below.mono hb fQ5.out.size
    have fX6 := Lib.hid (etr fX1.out (hb))
    have fA7 := Lib.hid (fA2.out.keep (hb))
    have fB8 := Lib.hid (fB3.out.keep (hb))
    have fR9 := Lib.hid (fR4.out.keep (hb))
    have fQ10 := Lib.hid (etr fQ5.out (hb))
    clear fX1 fA2 fB3 fR4 fQ5
    have fL11 := Lib.hid (hL)
    clear hL hE hJ hB
    refine hK _ _ hbq (fun y => ?_)
    clear hK K hb hbq
    have fX12 := Lib.hid (etr fX6.out (y.is))
    have fA13 := Lib.hid (fA7.out.keep (y.is))
    have fB14 := Lib.hid (fB8.out.keep (y.is))
    have fR15 := Lib.hid (fR9.out.keep (y.is))
    have fQ16 := Lib.hid (etr fQ10.out (y.is))
    have fL17 := Lib.hid (fL11.out.keep (y.is))
    clear fX6 fA7 fB8 fR9 fQ10 fL11
    refine wpAnyB_ready (rs := [2, 7]) (by kernel_rfl) (by simp) (AllB.cons rfl (fun K hK => ?_) (AllB.cons rfl (fun K hK => ?_) (AllB.nil)))
    · go_simp
      go_wp2_with fail
      refine (alvS3 L3 A2 c2 B2 cb2 K2 ck2 _ fL17.out (HT.out.keep fX12.out) HE3.out HJ3.out fR15.out).mono ?_
      rintro e rb ⟨A3, c3, B3, cb3, K3, ck3, rfl, hr, hb⟩
      have hbq := Below.mono hb fQ16.out.size
      have fX18 := Lib.hid (etr fX12.out (hb))
      have fA19 := Lib.hid (fA13.out.keep (hb))
      have fB20 := Lib.hid (fB14.out.keep (hb))
      have fR21 := Lib.hid (fR15.out.keep (hb))
      have fQ22 := Lib.hid (etr fQ16.out (hb))
      have fL23 := Lib.hid (fL17.out.keep (hb))
      clear fX12 fA13 fB14 fR15 fQ16 fL17
      refine hK _ _ hbq (fun y => ?_)
      clear hK K hb hbq hr
      have fX24 := Lib.hid (etr fX18.out (y.is))
      have fA25 := Lib.hid (fA19.out.keep (y.is))
      have fB26 := Lib.hid (fB20.out.keep (y.is))
      have fR27 := Lib.hid (fR21.out.keep (y.is))
      have fQ28 := Lib.hid (etr fQ22.out (y.is))
      have fL29 := Lib.hid (fL23.out.keep (y.is))
      clear fX18 fA19 fB20 fR21 fQ22 fL23
      refine wpAnyB_more (by kernel_rfl) (fun _ _ d _ _ h => by cases d <;> exact h) q y.val fQ28.out [3, 4, 5, 6] 4 _ _ (by kernel_rfl) ?_ _ (Ext.refl _)
      repeat (refine wpE_step rfl (fun K hK => ?_); go_simp; refine hK _ ?_; clear hK K)
      refine wpE_nil ?_
      intro u
      have fX30 := Lib.hid (etr fX24.out (u.is))
      have fA31 := Lib.hid (fA25.out.keep (u.is))
      have fB32 := Lib.hid (fB26.out.keep (u.is))
      have fR33 := Lib.hid (fR27.out.keep (u.is))
      have fQ34 := Lib.hid (etr fQ28.out (u.is))
      have fL35 := Lib.hid (fL29.out.keep (u.is))
      clear fX24 fA25 fB26 fR27 fQ28 fL29
      refine wpAnyB_ready (rs := [7]) (by kernel_rfl) (by simp) (AllB.cons rfl (fun K hK => ?_) (AllB.nil))
      go_simp
      have hzb := Lib.hid fQ34.out.size
      refine hK _ _ (ext_below (eal (Ext.refl _) _) hzb.out) (fun y => ?_)
      clear hK K
      have fX36 := Lib.hid (etr fX30.out (etr (eal (Ext.refl _) _) y.is))
      have fA37 := Lib.hid (fA31.out.keep (etr (eal (Ext.refl _) _) y.is))
      have fB38 := Lib.hid (fB32.out.keep (etr (eal (Ext.refl _) _) y.is))
      have fR39 := Lib.hid (fR33.out.keep (etr (eal (Ext.refl _) _) y.is))
      have fQ40 := Lib.hid (etr fQ34.out (etr (eal (Ext.refl _) _) y.is))
      have fL41 := Lib.hid (fL35.out.keep (etr (eal (Ext.refl _) _) y.is))
      clear fX30 fA31 fB32 fR33 fQ34 fL35
      have fZ42 := Lib.hid ((Own.keep (Own.new (t := 49) (cs := #[.slice none 0 0, .int .i64 0, .int .i64 0, .int .i64 0, .int .i64 0, .int .i64 0, .int .i64 0, .string ⟨#[]⟩, .int .i64 0, .int .i64 0, .int .i64 0, .int .i64 0, .int .i64 0, .int .i64 0, .int .i64 0, .int .i64 0, .int .i64 0, .int .i64 0, .int .i64 0, .int .i64 0, .int .i64 0, .int .i64 0, .int .i64 0, .int .i64 0, .slice none 0 0, .slice none 0 0, .int .i64 0, .int .i64 0, .int .i64 0, .int .i64 0, .bool false, .int .i64 0]) rfl) y.is))
      refine wpAnyB_ready (rs := [8]) (by kernel_rfl) (by simp) (AllB.cons rfl (fun K hK => ?_) AllB.nil)
      rw [if_pos (by rfl)]
      refine wpo_stN 49 [.slice A3 1 c3, .int .i64 15300, .int .i64 5000, .int .i64 100, .int .i64 300, .int .i64 2, .int .i64 1, .string ⟨#[110]⟩, .int .i64 5000, .int .i64 3000, .int .i64 100, .int .i64 50, .int .i64 100, .int .i64 1, .int .i64 0, .int .i64 0, .int .i64 0, .int .i64 2, .int .i64 0, .int .i64 0, .int .i64 0, .int .i64 0, .int .i64 0, .int .i64 0, .slice B3 0 cb3, .slice K3 0 ck3, .int .i64 0, .int .i64 0, .int .i64 0, .int .i64 0, .bool false, .int .i64 0] [.slice A3 1 c3, .int .i64 15300, .int .i64 5000, .int .i64 100, .int .i64 300, .int .i64 2, .int .i64 1, .string ⟨#[110]⟩, .int .i64 5000, .int .i64 3000, .int .i64 100, .int .i64 50, .int .i64 100, .int .i64 1, .int .i64 0, .int .i64 0, .int .i64 0, .int .i64 2, .int .i64 0, .int .i64 0, .int .i64 0, .int .i64 0, .int .i64 0, .int .i64 0, .slice B3 0 cb3, .slice K3 0 ck3, .int .i64 0, .int .i64 0, .int .i64 0, .int .i64 0, .bool false, .int .i64 0] rfl rfl fZ42.out rfl szUnt rfl (by show (0 + 32 : Nat) ≤ 32; decide) rfl ?_
      intro r0 H0
      have hzq := hzb.out
      have ha := HN1.out
      have hb2 := HN2.out
      refine hK _ _ (Below.only (Below.refl _ _) H0.out.2 hzq) (fun y => ?_)
      clear hK K
      have gX := Lib.hid (eonly fX36.out H0.out.2 (by have := HN3.out; omega))
      have gQ := Lib.hid (eonly fQ40.out H0.out.2 hzq)
      have gA := Lib.hid (fA37.out.only H0.out.2 (by omega))
      have gB := Lib.hid (fB38.out.only H0.out.2 (by omega))
      have gC := Lib.hid H0.out.1
      clear H0 hzq hzb ha hb2
      have fX43 := Lib.hid (etr gX.out (y.is))
      have fA44 := Lib.hid (gA.out.keep (y.is))
      have fB45 := Lib.hid (gB.out.keep (y.is))
      have fQ46 := Lib.hid (etr gQ.out (y.is))
      have fC47 := Lib.hid (gC.out.keep (y.is))
      clear gX gA gB gQ gC
      refine wpAnyB_ready (rs := [9]) (by kernel_rfl) (by simp) (AllB.cons rfl (fun K hK => ?_) AllB.nil)
      go_simp
      refine hK _ _ (Below.refl _ _) (fun y => ?_)
      clear hK K
      have fX48 := Lib.hid (etr fX43.out (y.is))
      have fA49 := Lib.hid (fA44.out.keep (y.is))
      have fB50 := Lib.hid (fB45.out.keep (y.is))
      have fQ51 := Lib.hid (etr fQ46.out (y.is))
      have fC52 := Lib.hid (fC47.out.keep (y.is))
      clear fX43 fA44 fB45 fQ46 fC47
      refine wpAnyB_ready (rs := [10]) (by kernel_rfl) (by simp) (AllB.cons rfl (fun K hK => ?_) AllB.nil)
      go_simp
      refine hK _ _ (Below.refl _ _) (fun y => ?_)
      clear hK K
      have fX53 := Lib.hid (etr fX48.out (y.is))
      have fA54 := Lib.hid (fA49.out.keep (y.is))
      have fB55 := Lib.hid (fB50.out.keep (y.is))
      have fQ56 := Lib.hid (etr fQ51.out (y.is))
      have fC57 := Lib.hid (fC52.out.keep (y.is))
      clear fX48 fA49 fB50 fQ51 fC52
      refine wpAnyB_done (by kernel_rfl) ?_ _
      go_upto_region 5 with (fail)
      obtain ⟨v, hv⟩ : ∃ v, v = ((y.val.alloc (.cells #[.int .i64 0, .int .i64 0, .int .i64 1, .int .i64 1, .int .i64 0, .int .i64 1] 75)).alloc (.cells #[.slice (some ⟨y.val.heap.size, 0, none⟩) 2 2, .int .i64 200, .int .i64 5000] 32)) := ⟨_, rfl⟩
      rw [← hv]
      have gv : Ext y.val v := by rw [hv]; exact eal (eal (Ext.refl _) _) _
      have gS : CellsAt v y.val.heap.size (exS2.flatMap Stc) := by rw [hv]; exact CellsAt.alloc (CellsAt.new rfl) _
      have gD : CellsAt v (y.val.heap.size + 1) [.slice (some ⟨y.val.heap.size, 0, none⟩) 2 2, .int .i64 200, .int .i64 5000] := by rw [hv]; exact CellsAt.new (by simp)
      have fX58 := Lib.hid (etr fX53.out (gv))
      have fA59 := Lib.hid (fA54.out.keep (gv))
      have fB60 := Lib.hid (fB55.out.keep (gv))
      have fQ61 := Lib.hid (etr fQ56.out (gv))
      have fC62 := Lib.hid (fC57.out.keep (gv))
      clear fX53 fA54 fB55 fQ56 fC57
      have fS63 := Lib.hid (gS)
      have fD64 := Lib.hid (gD)
      clear hv gv gS gD
      have HVV : Hid (Ext v v) := Ext.refl _
      refine wp_region_monoB [3] 5 (by kernel_rfl) (by kernel_rfl) (fun _ _ d _ _ h => by cases d <;> exact h) (by kernel_rfl) (by kernel_rfl) ?_
      refine wE_ldN 32 [.slice (some ⟨y.val.heap.size, 0, none⟩) 2 2, .int .i64 200, .int .i64 5000] rfl rfl rfl rfl fD64.out Tryd.underlying32 szBdy rfl ?_
      refine wpE_nil ?_
      intro x
      have fX65 := Lib.hid (etr fX58.out (x.is))
      have fA66 := Lib.hid (fA59.out.keep (x.is))
      have fB67 := Lib.hid (fB60.out.keep (x.is))
      have fQ68 := Lib.hid (etr HVV.out (x.is))
      have fC69 := Lib.hid (fC62.out.keep (x.is))
      have fS70 := Lib.hid (fS63.out.keep (x.is))
      have fD71 := Lib.hid (fD64.out.keep (x.is))
      clear fX58 fA59 fB60 HVV fC62 fS63 fD64
      refine wpAnyB_ready (rs := [0]) (by kernel_rfl) (by simp) (AllB.cons rfl (fun K hK => ?_) AllB.nil)
      go_simp
      go_wp2_with fail
      refine (line5_any _).mono ?_
      rintro e ra ⟨L4, rfl, hL, hE, hJ, hB, hb⟩
      have HE4 := Lib.hid hE
      have HJ4 := Lib.hid hJ
      have HB4 := Lib.hid hB
      have hbq := Below.mono hb fQ68.out.size
      have fX72 := Lib.hid (etr fX65.out (hb))
      have fA73 := Lib.hid (fA66.out.keep (hb))
      have fB74 := Lib.hid (fB67.out.keep (hb))
      have fQ75 := Lib.hid (etr fQ68.out (hb))
      have fC76 := Lib.hid (fC69.out.keep (hb))
      have fS77 := Lib.hid (fS70.out.keep (hb))
      have fD78 := Lib.hid (fD71.out.keep (hb))
      clear fX65 fA66 fB67 fQ68 fC69 fS70 fD71
      have fL79 := Lib.hid (hL)
      clear hL hE hJ hB
      refine hK _ _ hbq (fun y => ?_)
      clear hK K hb hbq
      have fX80 := Lib.hid (etr fX72.out (y.is))
      have fA81 := Lib.hid (fA73.out.keep (y.is))
      have fB82 := Lib.hid (fB74.out.keep (y.is))
      have fQ83 := Lib.hid (etr fQ75.out (y.is))
      have fC84 := Lib.hid (fC76.out.keep (y.is))
      have fS85 := Lib.hid (fS77.out.keep (y.is))
      have fD86 := Lib.hid (fD78.out.keep (y.is))
      have fL87 := Lib.hid (fL79.out.keep (y.is))
      clear fX72 fA73 fB74 fQ75 fC76 fS77 fD78 fL79
      refine wpAnyB_ready (rs := [1]) (by kernel_rfl) (by simp) (AllB.cons rfl (fun K hK => ?_) AllB.nil)
      go_simp
      go_wp2_with fail
      refine (unit_any 19900 0 0 _).mono ?_
      rintro e rb ⟨b5, rfl, hr, hb⟩
      have hbq := Below.mono hb fQ83.out.size
      have fX88 := Lib.hid (etr fX80.out (hb))
      have fA89 := Lib.hid (fA81.out.keep (hb))
      have fB90 := Lib.hid (fB82.out.keep (hb))
      have fQ91 := Lib.hid (etr fQ83.out (hb))
      have fC92 := Lib.hid (fC84.out.keep (hb))
      have fS93 := Lib.hid (fS85.out.keep (hb))
      have fD94 := Lib.hid (fD86.out.keep (hb))
      have fL95 := Lib.hid (fL87.out.keep (hb))
      clear fX80 fA81 fB82 fQ83 fC84 fS85 fD86 fL87
      have fU96 := Lib.hid (hr)
      refine hK _ _ hbq (fun y => ?_)
      clear hK K hb hbq hr
      have fX97 := Lib.hid (etr fX88.out (y.is))
      have fA98 := Lib.hid (fA89.out.keep (y.is))
      have fB99 := Lib.hid (fB90.out.keep (y.is))
      have fQ100 := Lib.hid (etr fQ91.out (y.is))
      have fC101 := Lib.hid (fC92.out.keep (y.is))
      have fS102 := Lib.hid (fS93.out.keep (y.is))
      have fD103 := Lib.hid (fD94.out.keep (y.is))
      have fL104 := Lib.hid (fL95.out.keep (y.is))
      have fU105 := Lib.hid (fU96.out.keep (y.is))
      clear fX88 fA89 fB90 fQ91 fC92 fS93 fD94 fL95 fU96
      have hf : ∀ x : World, (Instr.field 49 (.agg #[.slice (some ⟨b5, 0, none⟩) 1 1, .int .i64 19900, .int .i64 5000, .int .i64 0, .int .i64 0, .int .i64 0, .int .i64 1, .string ⟨#[110]⟩, .int .i64 5000, .int .i64 3000, .int .i64 100, .int .i64 50, .int .i64 100, .int .i64 1, .int .i64 0, .int .i64 0, .int .i64 0, .int .i64 0, .int .i64 0, .int .i64 0, .int .i64 0, .int .i64 0, .int .i64 0, .int .i64 0, .slice none 0 0, .slice none 0 0, .int .i64 0, .int .i64 0, .int .i64 0, .int .i64 0, .bool false, .int .i64 0]) 0).run Tryd.prog x = .ok (.agg #[.slice (some ⟨b5, 0, none⟩) 1 1, .int .i64 19900, .int .i64 5000]) x := fun _ => by kernel_rfl
      refine wpAnyB_ready (rs := [2]) (by kernel_rfl) (by simp) (AllB.cons rfl (fun K hK => ?_) AllB.nil)
      go_wp2
      refine hK _ _ (Below.refl _ _) (fun y => ?_)
      clear hK K hf
      have fX106 := Lib.hid (etr fX97.out (y.is))
      have fA107 := Lib.hid (fA98.out.keep (y.is))
      have fB108 := Lib.hid (fB99.out.keep (y.is))
      have fQ109 := Lib.hid (etr fQ100.out (y.is))
      have fC110 := Lib.hid (fC101.out.keep (y.is))
      have fS111 := Lib.hid (fS102.out.keep (y.is))
      have fD112 := Lib.hid (fD103.out.keep (y.is))
      have fL113 := Lib.hid (fL104.out.keep (y.is))
      have fU114 := Lib.hid (fU105.out.keep (y.is))
      clear fX97 fA98 fB99 fQ100 fC101 fS102 fD103 fL104 fU105
      refine wpAnyB_ready (rs := [4]) (by kernel_rfl) (by simp) (AllB.cons rfl (fun K hK => ?_) AllB.nil)
      go_simp
      go_wp2_with fail
      refine (alvR L4 _ 1 _ 2 _ fL113.out (HT.out.keep fX106.out) HE4.out HJ4.out HB4.out fU114.out (rd_cells Stc_len fS111.out)).mono ?_
      rintro e rc ⟨A5, c5, rfl, hr, hb⟩
      have hbq := Below.mono hb fQ109.out.size
      have fX115 := Lib.hid (etr fX106.out (hb))
      have fA116 := Lib.hid (fA107.out.keep (hb))
      have fB117 := Lib.hid (fB108.out.keep (hb))
      have fQ118 := Lib.hid (etr fQ109.out (hb))
      have fC119 := Lib.hid (fC110.out.keep (hb))
      have fS120 := Lib.hid (fS111.out.keep (hb))
      have fD121 := Lib.hid (fD112.out.keep (hb))
      have fL122 := Lib.hid (fL113.out.keep (hb))
      have fU123 := Lib.hid (fU114.out.keep (hb))
      clear fX106 fA107 fB108 fQ109 fC110 fS111 fD112 fL113 fU114
      have fV124 := Lib.hid (hr)
      refine hK _ _ hbq (fun y => ?_)
      clear hK K hb hbq hr
      have fX125 := Lib.hid (etr fX115.out (y.is))
      have fA126 := Lib.hid (fA116.out.keep (y.is))
      have fB127 := Lib.hid (fB117.out.keep (y.is))
      have fQ128 := Lib.hid (etr fQ118.out (y.is))
      have fC129 := Lib.hid (fC119.out.keep (y.is))
      have fS130 := Lib.hid (fS120.out.keep (y.is))
      have fD131 := Lib.hid (fD121.out.keep (y.is))
      have fL132 := Lib.hid (fL122.out.keep (y.is))
      have fU133 := Lib.hid (fU123.out.keep (y.is))
      have fV134 := Lib.hid (fV124.out.keep (y.is))
      clear fX115 fA116 fB117 fQ118 fC119 fS120 fD121 fL122 fU123 fV124
      refine wpAnyB_ready (rs := [5]) (by kernel_rfl) (by simp) (AllB.cons rfl (fun K hK => ?_) AllB.nil)
      go_simp
      refine hK _ _ (Below.refl _ _) (fun y => ?_)
      clear hK K
      have fX135 := Lib.hid (etr fX125.out (y.is))
      have fA136 := Lib.hid (fA126.out.keep (y.is))
      have fB137 := Lib.hid (fB127.out.keep (y.is))
      have fQ138 := Lib.hid (etr fQ128.out (y.is))
      have fC139 := Lib.hid (fC129.out.keep (y.is))
      have fS140 := Lib.hid (fS130.out.keep (y.is))
      have fD141 := Lib.hid (fD131.out.keep (y.is))
      have fL142 := Lib.hid (fL132.out.keep (y.is))
      have fU143 := Lib.hid (fU133.out.keep (y.is))
      have fV144 := Lib.hid (fV134.out.keep (y.is))
      clear fX125 fA126 fB127 fQ128 fC129 fS130 fD131 fL132 fU133 fV134
      refine wpAnyB_done (by kernel_rfl) ?_ _
      go_wp2_with fail
      have a1c := fA136.out.2.1 1 _ rfl
      have a3c := fA136.out.2.1 3 _ rfl
      have a4c := fA136.out.2.1 4 _ rfl
      have azc := fA136.out.1
      have b3c := fB137.out.2.1 3 _ rfl
      have b5c := fB137.out.2.1 5 _ rfl
      have bzc := fB137.out.1
      have c1c := fC139.out.2.1 1 _ rfl
      have c3c := fC139.out.2.1 3 _ rfl
      have c5c := fC139.out.2.1 5 _ rfl
      have czc := fC139.out.1
      have d0c := fD141.out.2 0 _ rfl
      have d1c := fD141.out.2 1 _ rfl
      have d2c := fD141.out.2 2 _ rfl
      have dzc := fD141.out.1
      refine wp_region_mono [0, 1, 2, 3, 4, 5, 6, 7, 8, 9, 10, 11, 12, 13, 14, 15, 16, 17, 18, 19, 20, 21, 22, 23, 24, 25, 26, 27, 28, 29, 30, 31, 32, 33, 34, 35, 36, 37, 38, 39, 40, 41, 42, 43, 44, 45, 46, 47, 48, 49, 50, 51, 52, 53, 54, 55, 56, 57, 58, 59] 10 (by kernel_rfl) (by kernel_rfl) (fun _ _ d _ _ h => by cases d <;> exact h) (by kernel_rfl) (by kernel_rfl) ?_
      repeat (refine wpE_step rfl (fun K hK => ?_); go_simp; (refine hK _ ?_; clear hK K))
      refine wpE_nil ?_
      intro x
      clear a1c a3c a4c azc b3c b5c bzc c1c c3c c5c czc d0c d1c d2c dzc
      have fX145 := Lib.hid (etr fX135.out (x.is))
      have fA146 := Lib.hid (fA136.out.keep (x.is))
      have fB147 := Lib.hid (fB137.out.keep (x.is))
      have fQ148 := Lib.hid (etr fQ138.out (x.is))
      have fC149 := Lib.hid (fC139.out.keep (x.is))
      have fS150 := Lib.hid (fS140.out.keep (x.is))
      have fD151 := Lib.hid (fD141.out.keep (x.is))
      have fL152 := Lib.hid (fL142.out.keep (x.is))
      have fU153 := Lib.hid (fU143.out.keep (x.is))
      have fV154 := Lib.hid (fV144.out.keep (x.is))
      clear fX135 fA136 fB137 fQ138 fC139 fS140 fD141 fL142 fU143 fV144
      refine wpAnyR_ready (rs := [60]) (by kernel_rfl) (by simp) (AllR.cons rfl (fun K hK => ?_) AllR.nil)
      go_simp
      have hbx : CellsAt (x.val.alloc (.cells #[.int .i64 4, .int .i64 200, .int .i64 8, .int .i64 150] 56)) x.val.heap.size (([⟨4, 200⟩, ⟨8, 150⟩] : List Rea).flatMap Rec) := CellsAt.new rfl
      have hez : Ext x.val (x.val.alloc (.cells #[.int .i64 4, .int .i64 200, .int .i64 8, .int .i64 150] 56)) := eal (Ext.refl _) _
      refine hK _ _ hez (fun y => ?_)
      clear hK K
      have fX155 := Lib.hid (etr fX145.out (etr hez y.is))
      have fA156 := Lib.hid (fA146.out.keep (etr hez y.is))
      have fB157 := Lib.hid (fB147.out.keep (etr hez y.is))
      have fQ158 := Lib.hid (etr fQ148.out (etr hez y.is))
      have fC159 := Lib.hid (fC149.out.keep (etr hez y.is))
      have fS160 := Lib.hid (fS150.out.keep (etr hez y.is))
      have fD161 := Lib.hid (fD151.out.keep (etr hez y.is))
      have fL162 := Lib.hid (fL152.out.keep (etr hez y.is))
      have fU163 := Lib.hid (fU153.out.keep (etr hez y.is))
      have fV164 := Lib.hid (fV154.out.keep (etr hez y.is))
      clear fX145 fA146 fB147 fQ148 fC149 fS150 fD151 fL152 fU153 fV154
      have fW165 := Lib.hid (hbx.keep y.is)
      clear hbx hez
      refine wpAnyR_more [61, 62, 63] (fuel := 6) (by kernel_rfl) (fun _ _ d _ _ h => by cases d <;> exact h) (by kernel_rfl) rfl ?_
      repeat (refine wpE_step rfl (fun K hK => ?_); go_simp; (first
        | (refine hK _ ?_; clear hK K)
        | (apply Exists.intro
           refine ⟨fun z => ?_, hK _ ?_⟩
           (go_at_call 20; exact sreads_any A5 c5 (some ⟨_, 0, none⟩) 2 [⟨4, 200⟩, ⟨8, 150⟩] _ (fV164.out.keep z.is) (rd_cells Rec_len (fW165.out.keep z.is)) (by decide))
           clear hK K)))
      refine wpE_nil ?_
      intro x
      have fX166 := Lib.hid (etr fX155.out (x.is))
      have fA167 := Lib.hid (fA156.out.keep (x.is))
      have fB168 := Lib.hid (fB157.out.keep (x.is))
      have fQ169 := Lib.hid (etr fQ158.out (x.is))
      have fC170 := Lib.hid (fC159.out.keep (x.is))
      have fS171 := Lib.hid (fS160.out.keep (x.is))
      have fD172 := Lib.hid (fD161.out.keep (x.is))
      have fL173 := Lib.hid (fL162.out.keep (x.is))
      have fU174 := Lib.hid (fU163.out.keep (x.is))
      have fV175 := Lib.hid (fV164.out.keep (x.is))
      have fW176 := Lib.hid (fW165.out.keep (x.is))
      clear fX155 fA156 fB157 fQ158 fC159 fS160 fD161 fL162 fU163 fV164 fW165
      have a1c := fA167.out.2.1 1 _ rfl
      have a3c := fA167.out.2.1 3 _ rfl
      have a4c := fA167.out.2.1 4 _ rfl
      have azc := fA167.out.1
      have b3c := fB168.out.2.1 3 _ rfl
      have b5c := fB168.out.2.1 5 _ rfl
      have bzc := fB168.out.1
      have c1c := fC170.out.2.1 1 _ rfl
      have c3c := fC170.out.2.1 3 _ rfl
      have c5c := fC170.out.2.1 5 _ rfl
      have czc := fC170.out.1
      have d0c := fD172.out.2 0 _ rfl
      have d1c := fD172.out.2 1 _ rfl
      have d2c := fD172.out.2 2 _ rfl
      have dzc := fD172.out.1
      refine wpAnyR_more [65] (fuel := 5) (by kernel_rfl) (fun _ _ d _ _ h => by cases d <;> exact h) (by kernel_rfl) rfl ?_
      repeat (refine wpE_step rfl (fun K hK => ?_); go_simp; (refine hK _ ?_; clear hK K))
      refine wpE_nil ?_
      intro x
      clear a1c a3c a4c azc b3c b5c bzc c1c c3c c5c czc d0c d1c d2c dzc
      have fX177 := Lib.hid (etr fX166.out (x.is))
      have fA178 := Lib.hid (fA167.out.keep (x.is))
      have fB179 := Lib.hid (fB168.out.keep (x.is))
      have fQ180 := Lib.hid (etr fQ169.out (x.is))
      have fC181 := Lib.hid (fC170.out.keep (x.is))
      have fS182 := Lib.hid (fS171.out.keep (x.is))
      have fD183 := Lib.hid (fD172.out.keep (x.is))
      have fL184 := Lib.hid (fL173.out.keep (x.is))
      have fU185 := Lib.hid (fU174.out.keep (x.is))
      have fV186 := Lib.hid (fV175.out.keep (x.is))
      have fW187 := Lib.hid (fW176.out.keep (x.is))
      clear fX166 fA167 fB168 fQ169 fC170 fS171 fD172 fL173 fU174 fV175 fW176
      refine wpAnyR_ready (rs := [64]) (by kernel_rfl) (by simp) (AllR.cons rfl (fun K hK => ?_) AllR.nil)
      go_simp
      go_wp2_with fail
      refine (line5_any _).mono ?_
      rintro e s2 ⟨L5, rfl, hL, hE, hJ, hB, hb⟩
      have HE5 := Lib.hid hE
      have HJ5 := Lib.hid hJ
      have fX188 := Lib.hid (etr fX177.out (hb))
      have fA189 := Lib.hid (fA178.out.keep (hb))
      have fB190 := Lib.hid (fB179.out.keep (hb))
      have fQ191 := Lib.hid (etr fQ180.out (hb))
      have fC192 := Lib.hid (fC181.out.keep (hb))
      have fS193 := Lib.hid (fS182.out.keep (hb))
      have fD194 := Lib.hid (fD183.out.keep (hb))
      have fL195 := Lib.hid (fL184.out.keep (hb))
      have fU196 := Lib.hid (fU185.out.keep (hb))
      have fV197 := Lib.hid (fV186.out.keep (hb))
      have fW198 := Lib.hid (fW187.out.keep (hb))
      clear fX177 fA178 fB179 fQ180 fC181 fS182 fD183 fL184 fU185 fV186 fW187
      have fM199 := Lib.hid (hL)
      refine hK _ _ hb (fun y => ?_)
      clear hK K hL hE hJ hB hb
      have fX200 := Lib.hid (etr fX188.out (y.is))
      have fA201 := Lib.hid (fA189.out.keep (y.is))
      have fB202 := Lib.hid (fB190.out.keep (y.is))
      have fQ203 := Lib.hid (etr fQ191.out (y.is))
      have fC204 := Lib.hid (fC192.out.keep (y.is))
      have fS205 := Lib.hid (fS193.out.keep (y.is))
      have fD206 := Lib.hid (fD194.out.keep (y.is))
      have fL207 := Lib.hid (fL195.out.keep (y.is))
      have fU208 := Lib.hid (fU196.out.keep (y.is))
      have fV209 := Lib.hid (fV197.out.keep (y.is))
      have fW210 := Lib.hid (fW198.out.keep (y.is))
      have fM211 := Lib.hid (fM199.out.keep (y.is))
      clear fX188 fA189 fB190 fQ191 fC192 fS193 fD194 fL195 fU196 fV197 fW198 fM199
      refine wpAnyR_more [66, 67, 68, 69] (fuel := 0) (by kernel_rfl) (fun _ _ d _ _ h => by cases d <;> exact h) (by kernel_rfl) rfl ?_
      repeat (refine wpE_step rfl (fun K hK => ?_); go_simp; (first
        | (refine hK _ ?_; clear hK K)
        | (apply Exists.intro
           refine ⟨fun z => ?_, hK _ ?_⟩
           (go_at_call 22; exact alvG L5 _ 2 _ (fM211.out.keep z.is) (HT.out.keep (etr fX200.out z.is)) HE5.out HJ5.out (rd_cells Stc_len (fS205.out.keep z.is)))
           clear hK K)))
      refine wpE_nil ?_
      intro x
      refine wpAnyR_done (by kernel_rfl) ?_ _
      go_wp2
      go_ret
      exact ⟨rfl, etr fX200.out x.is⟩
    · go_simp
      have hzb := Lib.hid fQ16.out.size
      refine hK _ _ (ext_below (eal (Ext.refl _) _) hzb.out) (fun y => ?_)
      clear hK K
      have fX18 := Lib.hid (etr fX12.out (etr (eal (Ext.refl _) _) y.is))
      have fA19 := Lib.hid (fA13.out.keep (etr (eal (Ext.refl _) _) y.is))
      have fB20 := Lib.hid (fB14.out.keep (etr (eal (Ext.refl _) _) y.is))
      have fR21 := Lib.hid (fR15.out.keep (etr (eal (Ext.refl _) _) y.is))
      have fQ22 := Lib.hid (etr fQ16.out (etr (eal (Ext.refl _) _) y.is))
      have fL23 := Lib.hid (fL17.out.keep (etr (eal (Ext.refl _) _) y.is))
      clear fX12 fA13 fB14 fR15 fQ16 fL17
      have fZ24 := Lib.hid ((Own.keep (Own.new (t := 49) (cs := #[.slice none 0 0, .int .i64 0, .int .i64 0, .int .i64 0, .int .i64 0, .int .i64 0, .int .i64 0, .string ⟨#[]⟩, .int .i64 0, .int .i64 0, .int .i64 0, .int .i64 0, .int .i64 0, .int .i64 0, .int .i64 0, .int .i64 0, .int .i64 0, .int .i64 0, .int .i64 0, .int .i64 0, .int .i64 0, .int .i64 0, .int .i64 0, .int .i64 0, .slice none 0 0, .slice none 0 0, .int .i64 0, .int .i64 0, .int .i64 0, .int .i64 0, .bool false, .int .i64 0]) rfl) y.is))
      refine wpAnyB_ready (rs := [2]) (by kernel_rfl) (by simp) (AllB.cons rfl (fun K hK => ?_) (AllB.nil))
      go_simp
      go_wp2_with fail
      refine (alvS3 L3 A2 c2 B2 cb2 K2 ck2 _ fL23.out (HT.out.keep fX18.out) HE3.out HJ3.out fR21.out).mono ?_
      rintro e rb ⟨A3, c3, B3, cb3, K3, ck3, rfl, hr, hb⟩
      have hbq := Below.mono hb fQ22.out.size
      have fX25 := Lib.hid (etr fX18.out (hb))
      have fA26 := Lib.hid (fA19.out.keep (hb))
      have fB27 := Lib.hid (fB20.out.keep (hb))
      have fR28 := Lib.hid (fR21.out.keep (hb))
      have fQ29 := Lib.hid (etr fQ22.out (hb))
      have fL30 := Lib.hid (fL23.out.keep (hb))
      have fZ31 := Lib.hid (fZ24.out.keep (hb))
      clear fX18 fA19 fB20 fR21 fQ22 fL23 fZ24
      refine hK _ _ hbq (fun y => ?_)
      clear hK K hb hbq hr
      have fX32 := Lib.hid (etr fX25.out (y.is))
      have fA33 := Lib.hid (fA26.out.keep (y.is))
      have fB34 := Lib.hid (fB27.out.keep (y.is))
      have fR35 := Lib.hid (fR28.out.keep (y.is))
      have fQ36 := Lib.hid (etr fQ29.out (y.is))
      have fL37 := Lib.hid (fL30.out.keep (y.is))
      have fZ38 := Lib.hid (fZ31.out.keep (y.is))
      clear fX25 fA26 fB27 fR28 fQ29 fL30 fZ31
      refine wpAnyB_more (by kernel_rfl) (fun _ _ d _ _ h => by cases d <;> exact h) q y.val fQ36.out [3, 4, 5, 6] 3 _ _ (by kernel_rfl) ?_ _ (Ext.refl _)
      repeat (refine wpE_step rfl (fun K hK => ?_); go_simp; refine hK _ ?_; clear hK K)
      refine wpE_nil ?_
      intro u
      have fX39 := Lib.hid (etr fX32.out (u.is))
      have fA40 := Lib.hid (fA33.out.keep (u.is))
      have fB41 := Lib.hid (fB34.out.keep (u.is))
      have fR42 := Lib.hid (fR35.out.keep (u.is))
      have fQ43 := Lib.hid (etr fQ36.out (u.is))
      have fL44 := Lib.hid (fL37.out.keep (u.is))
      have fZ45 := Lib.hid (fZ38.out.keep (u.is))
      clear fX32 fA33 fB34 fR35 fQ36 fL37 fZ38
      refine wpAnyB_ready (rs := [8]) (by kernel_rfl) (by simp) (AllB.cons rfl (fun K hK => ?_) AllB.nil)
      rw [if_pos (by rfl)]
      refine wpo_stN 49 [.slice A3 1 c3, .int .i64 15300, .int .i64 5000, .int .i64 100, .int .i64 300, .int .i64 2, .int .i64 1, .string ⟨#[110]⟩, .int .i64 5000, .int .i64 3000, .int .i64 100, .int .i64 50, .int .i64 100, .int .i64 1, .int .i64 0, .int .i64 0, .int .i64 0, .int .i64 2, .int .i64 0, .int .i64 0, .int .i64 0, .int .i64 0, .int .i64 0, .int .i64 0, .slice B3 0 cb3, .slice K3 0 ck3, .int .i64 0, .int .i64 0, .int .i64 0, .int .i64 0, .bool false, .int .i64 0] [.slice A3 1 c3, .int .i64 15300, .int .i64 5000, .int .i64 100, .int .i64 300, .int .i64 2, .int .i64 1, .string ⟨#[110]⟩, .int .i64 5000, .int .i64 3000, .int .i64 100, .int .i64 50, .int .i64 100, .int .i64 1, .int .i64 0, .int .i64 0, .int .i64 0, .int .i64 2, .int .i64 0, .int .i64 0, .int .i64 0, .int .i64 0, .int .i64 0, .int .i64 0, .slice B3 0 cb3, .slice K3 0 ck3, .int .i64 0, .int .i64 0, .int .i64 0, .int .i64 0, .bool false, .int .i64 0] rfl rfl fZ45.out rfl szUnt rfl (by show (0 + 32 : Nat) ≤ 32; decide) rfl ?_
      intro r0 H0
      have hzq := hzb.out
      have ha := HN1.out
      have hb2 := HN2.out
      refine hK _ _ (Below.only (Below.refl _ _) H0.out.2 hzq) (fun y => ?_)
      clear hK K
      have gX := Lib.hid (eonly fX39.out H0.out.2 (by have := HN3.out; omega))
      have gQ := Lib.hid (eonly fQ43.out H0.out.2 hzq)
      have gA := Lib.hid (fA40.out.only H0.out.2 (by omega))
      have gB := Lib.hid (fB41.out.only H0.out.2 (by omega))
      have gC := Lib.hid H0.out.1
      clear H0 hzq hzb ha hb2
      have fX46 := Lib.hid (etr gX.out (y.is))
      have fA47 := Lib.hid (gA.out.keep (y.is))
      have fB48 := Lib.hid (gB.out.keep (y.is))
      have fQ49 := Lib.hid (etr gQ.out (y.is))
      have fC50 := Lib.hid (gC.out.keep (y.is))
      clear gX gA gB gQ gC
      refine wpAnyB_ready (rs := [9]) (by kernel_rfl) (by simp) (AllB.cons rfl (fun K hK => ?_) AllB.nil)
      go_simp
      refine hK _ _ (Below.refl _ _) (fun y => ?_)
      clear hK K
      have fX51 := Lib.hid (etr fX46.out (y.is))
      have fA52 := Lib.hid (fA47.out.keep (y.is))
      have fB53 := Lib.hid (fB48.out.keep (y.is))
      have fQ54 := Lib.hid (etr fQ49.out (y.is))
      have fC55 := Lib.hid (fC50.out.keep (y.is))
      clear fX46 fA47 fB48 fQ49 fC50
      refine wpAnyB_ready (rs := [10]) (by kernel_rfl) (by simp) (AllB.cons rfl (fun K hK => ?_) AllB.nil)
      go_simp
      refine hK _ _ (Below.refl _ _) (fun y => ?_)
      clear hK K
      have fX56 := Lib.hid (etr fX51.out (y.is))
      have fA57 := Lib.hid (fA52.out.keep (y.is))
      have fB58 := Lib.hid (fB53.out.keep (y.is))
      have fQ59 := Lib.hid (etr fQ54.out (y.is))
      have fC60 := Lib.hid (fC55.out.keep (y.is))
      clear fX51 fA52 fB53 fQ54 fC55
      refine wpAnyB_done (by kernel_rfl) ?_ _
      go_upto_region 5 with (fail)
      obtain ⟨v, hv⟩ : ∃ v, v = ((y.val.alloc (.cells #[.int .i64 0, .int .i64 0, .int .i64 1, .int .i64 1, .int .i64 0, .int .i64 1] 75)).alloc (.cells #[.slice (some ⟨y.val.heap.size, 0, none⟩) 2 2, .int .i64 200, .int .i64 5000] 32)) := ⟨_, rfl⟩
      rw [← hv]
      have gv : Ext y.val v := by rw [hv]; exact eal (eal (Ext.refl _) _) _
      have gS : CellsAt v y.val.heap.size (exS2.flatMap Stc) := by rw [hv]; exact CellsAt.alloc (CellsAt.new rfl) _
      have gD : CellsAt v (y.val.heap.size + 1) [.slice (some ⟨y.val.heap.size, 0, none⟩) 2 2, .int .i64 200, .int .i64 5000] := by rw [hv]; exact CellsAt.new (by simp)
      have fX61 := Lib.hid (etr fX56.out (gv))
      have fA62 := Lib.hid (fA57.out.keep (gv))
      have fB63 := Lib.hid (fB58.out.keep (gv))
      have fQ64 := Lib.hid (etr fQ59.out (gv))
      have fC65 := Lib.hid (fC60.out.keep (gv))
      clear fX56 fA57 fB58 fQ59 fC60
      have fS66 := Lib.hid (gS)
      have fD67 := Lib.hid (gD)
      clear hv gv gS gD
      have HVV : Hid (Ext v v) := Ext.refl _
      refine wp_region_monoB [3] 5 (by kernel_rfl) (by kernel_rfl) (fun _ _ d _ _ h => by cases d <;> exact h) (by kernel_rfl) (by kernel_rfl) ?_
      refine wE_ldN 32 [.slice (some ⟨y.val.heap.size, 0, none⟩) 2 2, .int .i64 200, .int .i64 5000] rfl rfl rfl rfl fD67.out Tryd.underlying32 szBdy rfl ?_
      refine wpE_nil ?_
      intro x
      have fX68 := Lib.hid (etr fX61.out (x.is))
      have fA69 := Lib.hid (fA62.out.keep (x.is))
      have fB70 := Lib.hid (fB63.out.keep (x.is))
      have fQ71 := Lib.hid (etr HVV.out (x.is))
      have fC72 := Lib.hid (fC65.out.keep (x.is))
      have fS73 := Lib.hid (fS66.out.keep (x.is))
      have fD74 := Lib.hid (fD67.out.keep (x.is))
      clear fX61 fA62 fB63 HVV fC65 fS66 fD67
      refine wpAnyB_ready (rs := [0]) (by kernel_rfl) (by simp) (AllB.cons rfl (fun K hK => ?_) AllB.nil)
      go_simp
      go_wp2_with fail
      refine (line5_any _).mono ?_
      rintro e ra ⟨L4, rfl, hL, hE, hJ, hB, hb⟩
      have HE4 := Lib.hid hE
      have HJ4 := Lib.hid hJ
      have HB4 := Lib.hid hB
      have hbq := Below.mono hb fQ71.out.size
      have fX75 := Lib.hid (etr fX68.out (hb))
      have fA76 := Lib.hid (fA69.out.keep (hb))
      have fB77 := Lib.hid (fB70.out.keep (hb))
      have fQ78 := Lib.hid (etr fQ71.out (hb))
      have fC79 := Lib.hid (fC72.out.keep (hb))
      have fS80 := Lib.hid (fS73.out.keep (hb))
      have fD81 := Lib.hid (fD74.out.keep (hb))
      clear fX68 fA69 fB70 fQ71 fC72 fS73 fD74
      have fL82 := Lib.hid (hL)
      clear hL hE hJ hB
      refine hK _ _ hbq (fun y => ?_)
      clear hK K hb hbq
      have fX83 := Lib.hid (etr fX75.out (y.is))
      have fA84 := Lib.hid (fA76.out.keep (y.is))
      have fB85 := Lib.hid (fB77.out.keep (y.is))
      have fQ86 := Lib.hid (etr fQ78.out (y.is))
      have fC87 := Lib.hid (fC79.out.keep (y.is))
      have fS88 := Lib.hid (fS80.out.keep (y.is))
      have fD89 := Lib.hid (fD81.out.keep (y.is))
      have fL90 := Lib.hid (fL82.out.keep (y.is))
      clear fX75 fA76 fB77 fQ78 fC79 fS80 fD81 fL82
      refine wpAnyB_ready (rs := [1]) (by kernel_rfl) (by simp) (AllB.cons rfl (fun K hK => ?_) AllB.nil)
      go_simp
      go_wp2_with fail
      refine (unit_any 19900 0 0 _).mono ?_
      rintro e rb ⟨b5, rfl, hr, hb⟩
      have hbq := Below.mono hb fQ86.out.size
      have fX91 := Lib.hid (etr fX83.out (hb))
      have fA92 := Lib.hid (fA84.out.keep (hb))
      have fB93 := Lib.hid (fB85.out.keep (hb))
      have fQ94 := Lib.hid (etr fQ86.out (hb))
      have fC95 := Lib.hid (fC87.out.keep (hb))
      have fS96 := Lib.hid (fS88.out.keep (hb))
      have fD97 := Lib.hid (fD89.out.keep (hb))
      have fL98 := Lib.hid (fL90.out.keep (hb))
      clear fX83 fA84 fB85 fQ86 fC87 fS88 fD89 fL90
      have fU99 := Lib.hid (hr)
      refine hK _ _ hbq (fun y => ?_)
      clear hK K hb hbq hr
      have fX100 := Lib.hid (etr fX91.out (y.is))
      have fA101 := Lib.hid (fA92.out.keep (y.is))
      have fB102 := Lib.hid (fB93.out.keep (y.is))
      have fQ103 := Lib.hid (etr fQ94.out (y.is))
      have fC104 := Lib.hid (fC95.out.keep (y.is))
      have fS105 := Lib.hid (fS96.out.keep (y.is))
      have fD106 := Lib.hid (fD97.out.keep (y.is))
      have fL107 := Lib.hid (fL98.out.keep (y.is))
      have fU108 := Lib.hid (fU99.out.keep (y.is))
      clear fX91 fA92 fB93 fQ94 fC95 fS96 fD97 fL98 fU99
      have hf : ∀ x : World, (Instr.field 49 (.agg #[.slice (some ⟨b5, 0, none⟩) 1 1, .int .i64 19900, .int .i64 5000, .int .i64 0, .int .i64 0, .int .i64 0, .int .i64 1, .string ⟨#[110]⟩, .int .i64 5000, .int .i64 3000, .int .i64 100, .int .i64 50, .int .i64 100, .int .i64 1, .int .i64 0, .int .i64 0, .int .i64 0, .int .i64 0, .int .i64 0, .int .i64 0, .int .i64 0, .int .i64 0, .int .i64 0, .int .i64 0, .slice none 0 0, .slice none 0 0, .int .i64 0, .int .i64 0, .int .i64 0, .int .i64 0, .bool false, .int .i64 0]) 0).run Tryd.prog x = .ok (.agg #[.slice (some ⟨b5, 0, none⟩) 1 1, .int .i64 19900, .int .i64 5000]) x := fun _ => by kernel_rfl
      refine wpAnyB_ready (rs := [2]) (by kernel_rfl) (by simp) (AllB.cons rfl (fun K hK => ?_) AllB.nil)
      go_wp2
      refine hK _ _ (Below.refl _ _) (fun y => ?_)
      clear hK K hf
      have fX109 := Lib.hid (etr fX100.out (y.is))
      have fA110 := Lib.hid (fA101.out.keep (y.is))
      have fB111 := Lib.hid (fB102.out.keep (y.is))
      have fQ112 := Lib.hid (etr fQ103.out (y.is))
      have fC113 := Lib.hid (fC104.out.keep (y.is))
      have fS114 := Lib.hid (fS105.out.keep (y.is))
      have fD115 := Lib.hid (fD106.out.keep (y.is))
      have fL116 := Lib.hid (fL107.out.keep (y.is))
      have fU117 := Lib.hid (fU108.out.keep (y.is))
      clear fX100 fA101 fB102 fQ103 fC104 fS105 fD106 fL107 fU108
      refine wpAnyB_ready (rs := [4]) (by kernel_rfl) (by simp) (AllB.cons rfl (fun K hK => ?_) AllB.nil)
      go_simp
      go_wp2_with fail
      refine (alvR L4 _ 1 _ 2 _ fL116.out (HT.out.keep fX109.out) HE4.out HJ4.out HB4.out fU117.out (rd_cells Stc_len fS114.out)).mono ?_
      rintro e rc ⟨A5, c5, rfl, hr, hb⟩
      have hbq := Below.mono hb fQ112.out.size
      have fX118 := Lib.hid (etr fX109.out (hb))
      have fA119 := Lib.hid (fA110.out.keep (hb))
      have fB120 := Lib.hid (fB111.out.keep (hb))
      have fQ121 := Lib.hid (etr fQ112.out (hb))
      have fC122 := Lib.hid (fC113.out.keep (hb))
      have fS123 := Lib.hid (fS114.out.keep (hb))
      have fD124 := Lib.hid (fD115.out.keep (hb))
      have fL125 := Lib.hid (fL116.out.keep (hb))
      have fU126 := Lib.hid (fU117.out.keep (hb))
      clear fX109 fA110 fB111 fQ112 fC113 fS114 fD115 fL116 fU117
      have fV127 := Lib.hid (hr)
      refine hK _ _ hbq (fun y => ?_)
      clear hK K hb hbq hr
      have fX128 := Lib.hid (etr fX118.out (y.is))
      have fA129 := Lib.hid (fA119.out.keep (y.is))
      have fB130 := Lib.hid (fB120.out.keep (y.is))
      have fQ131 := Lib.hid (etr fQ121.out (y.is))
      have fC132 := Lib.hid (fC122.out.keep (y.is))
      have fS133 := Lib.hid (fS123.out.keep (y.is))
      have fD134 := Lib.hid (fD124.out.keep (y.is))
      have fL135 := Lib.hid (fL125.out.keep (y.is))
      have fU136 := Lib.hid (fU126.out.keep (y.is))
      have fV137 := Lib.hid (fV127.out.keep (y.is))
      clear fX118 fA119 fB120 fQ121 fC122 fS123 fD124 fL125 fU126 fV127
      refine wpAnyB_ready (rs := [5]) (by kernel_rfl) (by simp) (AllB.cons rfl (fun K hK => ?_) AllB.nil)
      go_simp
      refine hK _ _ (Below.refl _ _) (fun y => ?_)
      clear hK K
      have fX138 := Lib.hid (etr fX128.out (y.is))
      have fA139 := Lib.hid (fA129.out.keep (y.is))
      have fB140 := Lib.hid (fB130.out.keep (y.is))
      have fQ141 := Lib.hid (etr fQ131.out (y.is))
      have fC142 := Lib.hid (fC132.out.keep (y.is))
      have fS143 := Lib.hid (fS133.out.keep (y.is))
      have fD144 := Lib.hid (fD134.out.keep (y.is))
      have fL145 := Lib.hid (fL135.out.keep (y.is))
      have fU146 := Lib.hid (fU136.out.keep (y.is))
      have fV147 := Lib.hid (fV137.out.keep (y.is))
      clear fX128 fA129 fB130 fQ131 fC132 fS133 fD134 fL135 fU136 fV137
      refine wpAnyB_done (by kernel_rfl) ?_ _
      go_wp2_with fail
      have a1c := fA139.out.2.1 1 _ rfl
      have a3c := fA139.out.2.1 3 _ rfl
      have a4c := fA139.out.2.1 4 _ rfl
      have azc := fA139.out.1
      have b3c := fB140.out.2.1 3 _ rfl
      have b5c := fB140.out.2.1 5 _ rfl
      have bzc := fB140.out.1
      have c1c := fC142.out.2.1 1 _ rfl
      have c3c := fC142.out.2.1 3 _ rfl
      have c5c := fC142.out.2.1 5 _ rfl
      have czc := fC142.out.1
      have d0c := fD144.out.2 0 _ rfl
      have d1c := fD144.out.2 1 _ rfl
      have d2c := fD144.out.2 2 _ rfl
      have dzc := fD144.out.1
      refine wp_region_mono [0, 1, 2, 3, 4, 5, 6, 7, 8, 9, 10, 11, 12, 13, 14, 15, 16, 17, 18, 19, 20, 21, 22, 23, 24, 25, 26, 27, 28, 29, 30, 31, 32, 33, 34, 35, 36, 37, 38, 39, 40, 41, 42, 43, 44, 45, 46, 47, 48, 49, 50, 51, 52, 53, 54, 55, 56, 57, 58, 59] 10 (by kernel_rfl) (by kernel_rfl) (fun _ _ d _ _ h => by cases d <;> exact h) (by kernel_rfl) (by kernel_rfl) ?_
      repeat (refine wpE_step rfl (fun K hK => ?_); go_simp; (refine hK _ ?_; clear hK K))
      refine wpE_nil ?_
      intro x
      clear a1c a3c a4c azc b3c b5c bzc c1c c3c c5c czc d0c d1c d2c dzc
      have fX148 := Lib.hid (etr fX138.out (x.is))
      have fA149 := Lib.hid (fA139.out.keep (x.is))
      have fB150 := Lib.hid (fB140.out.keep (x.is))
      have fQ151 := Lib.hid (etr fQ141.out (x.is))
      have fC152 := Lib.hid (fC142.out.keep (x.is))
      have fS153 := Lib.hid (fS143.out.keep (x.is))
      have fD154 := Lib.hid (fD144.out.keep (x.is))
      have fL155 := Lib.hid (fL145.out.keep (x.is))
      have fU156 := Lib.hid (fU146.out.keep (x.is))
      have fV157 := Lib.hid (fV147.out.keep (x.is))
      clear fX138 fA139 fB140 fQ141 fC142 fS143 fD144 fL145 fU146 fV147
      refine wpAnyR_ready (rs := [60]) (by kernel_rfl) (by simp) (AllR.cons rfl (fun K hK => ?_) AllR.nil)
      go_simp
      have hbx : CellsAt (x.val.alloc (.cells #[.int .i64 4, .int .i64 200, .int .i64 8, .int .i64 150] 56)) x.val.heap.size (([⟨4, 200⟩, ⟨8, 150⟩] : List Rea).flatMap Rec) := CellsAt.new rfl
      have hez : Ext x.val (x.val.alloc (.cells #[.int .i64 4, .int .i64 200, .int .i64 8, .int .i64 150] 56)) := eal (Ext.refl _) _
      refine hK _ _ hez (fun y => ?_)
      clear hK K
      have fX158 := Lib.hid (etr fX148.out (etr hez y.is))
      have fA159 := Lib.hid (fA149.out.keep (etr hez y.is))
      have fB160 := Lib.hid (fB150.out.keep (etr hez y.is))
      have fQ161 := Lib.hid (etr fQ151.out (etr hez y.is))
      have fC162 := Lib.hid (fC152.out.keep (etr hez y.is))
      have fS163 := Lib.hid (fS153.out.keep (etr hez y.is))
      have fD164 := Lib.hid (fD154.out.keep (etr hez y.is))
      have fL165 := Lib.hid (fL155.out.keep (etr hez y.is))
      have fU166 := Lib.hid (fU156.out.keep (etr hez y.is))
      have fV167 := Lib.hid (fV157.out.keep (etr hez y.is))
      clear fX148 fA149 fB150 fQ151 fC152 fS153 fD154 fL155 fU156 fV157
      have fW168 := Lib.hid (hbx.keep y.is)
      clear hbx hez
      refine wpAnyR_more [61, 62, 63] (fuel := 6) (by kernel_rfl) (fun _ _ d _ _ h => by cases d <;> exact h) (by kernel_rfl) rfl ?_
      repeat (refine wpE_step rfl (fun K hK => ?_); go_simp; (first
        | (refine hK _ ?_; clear hK K)
        | (apply Exists.intro
           refine ⟨fun z => ?_, hK _ ?_⟩
           (go_at_call 20; exact sreads_any A5 c5 (some ⟨_, 0, none⟩) 2 [⟨4, 200⟩, ⟨8, 150⟩] _ (fV167.out.keep z.is) (rd_cells Rec_len (fW168.out.keep z.is)) (by decide))
           clear hK K)))
      refine wpE_nil ?_
      intro x
      have fX169 := Lib.hid (etr fX158.out (x.is))
      have fA170 := Lib.hid (fA159.out.keep (x.is))
      have fB171 := Lib.hid (fB160.out.keep (x.is))
      have fQ172 := Lib.hid (etr fQ161.out (x.is))
      have fC173 := Lib.hid (fC162.out.keep (x.is))
      have fS174 := Lib.hid (fS163.out.keep (x.is))
      have fD175 := Lib.hid (fD164.out.keep (x.is))
      have fL176 := Lib.hid (fL165.out.keep (x.is))
      have fU177 := Lib.hid (fU166.out.keep (x.is))
      have fV178 := Lib.hid (fV167.out.keep (x.is))
      have fW179 := Lib.hid (fW168.out.keep (x.is))
      clear fX158 fA159 fB160 fQ161 fC162 fS163 fD164 fL165 fU166 fV167 fW168
      have a1c := fA170.out.2.1 1 _ rfl
      have a3c := fA170.out.2.1 3 _ rfl
      have a4c := fA170.out.2.1 4 _ rfl
      have azc := fA170.out.1
      have b3c := fB171.out.2.1 3 _ rfl
      have b5c := fB171.out.2.1 5 _ rfl
      have bzc := fB171.out.1
      have c1c := fC173.out.2.1 1 _ rfl
      have c3c := fC173.out.2.1 3 _ rfl
      have c5c := fC173.out.2.1 5 _ rfl
      have czc := fC173.out.1
      have d0c := fD175.out.2 0 _ rfl
      have d1c := fD175.out.2 1 _ rfl
      have d2c := fD175.out.2 2 _ rfl
      have dzc := fD175.out.1
      refine wpAnyR_more [65] (fuel := 5) (by kernel_rfl) (fun _ _ d _ _ h => by cases d <;> exact h) (by kernel_rfl) rfl ?_
      repeat (refine wpE_step rfl (fun K hK => ?_); go_simp; (refine hK _ ?_; clear hK K))
      refine wpE_nil ?_
      intro x
      clear a1c a3c a4c azc b3c b5c bzc c1c c3c c5c czc d0c d1c d2c dzc
      have fX180 := Lib.hid (etr fX169.out (x.is))
      have fA181 := Lib.hid (fA170.out.keep (x.is))
      have fB182 := Lib.hid (fB171.out.keep (x.is))
      have fQ183 := Lib.hid (etr fQ172.out (x.is))
      have fC184 := Lib.hid (fC173.out.keep (x.is))
      have fS185 := Lib.hid (fS174.out.keep (x.is))
      have fD186 := Lib.hid (fD175.out.keep (x.is))
      have fL187 := Lib.hid (fL176.out.keep (x.is))
      have fU188 := Lib.hid (fU177.out.keep (x.is))
      have fV189 := Lib.hid (fV178.out.keep (x.is))
      have fW190 := Lib.hid (fW179.out.keep (x.is))
      clear fX169 fA170 fB171 fQ172 fC173 fS174 fD175 fL176 fU177 fV178 fW179
      refine wpAnyR_ready (rs := [64]) (by kernel_rfl) (by simp) (AllR.cons rfl (fun K hK => ?_) AllR.nil)
      go_simp
      go_wp2_with fail
      refine (line5_any _).mono ?_
      rintro e s2 ⟨L5, rfl, hL, hE, hJ, hB, hb⟩
      have HE5 := Lib.hid hE
      have HJ5 := Lib.hid hJ
      have fX191 := Lib.hid (etr fX180.out (hb))
      have fA192 := Lib.hid (fA181.out.keep (hb))
      have fB193 := Lib.hid (fB182.out.keep (hb))
      have fQ194 := Lib.hid (etr fQ183.out (hb))
      have fC195 := Lib.hid (fC184.out.keep (hb))
      have fS196 := Lib.hid (fS185.out.keep (hb))
      have fD197 := Lib.hid (fD186.out.keep (hb))
      have fL198 := Lib.hid (fL187.out.keep (hb))
      have fU199 := Lib.hid (fU188.out.keep (hb))
      have fV200 := Lib.hid (fV189.out.keep (hb))
      have fW201 := Lib.hid (fW190.out.keep (hb))
      clear fX180 fA181 fB182 fQ183 fC184 fS185 fD186 fL187 fU188 fV189 fW190
      have fM202 := Lib.hid (hL)
      refine hK _ _ hb (fun y => ?_)
      clear hK K hL hE hJ hB hb
      have fX203 := Lib.hid (etr fX191.out (y.is))
      have fA204 := Lib.hid (fA192.out.keep (y.is))
      have fB205 := Lib.hid (fB193.out.keep (y.is))
      have fQ206 := Lib.hid (etr fQ194.out (y.is))
      have fC207 := Lib.hid (fC195.out.keep (y.is))
      have fS208 := Lib.hid (fS196.out.keep (y.is))
      have fD209 := Lib.hid (fD197.out.keep (y.is))
      have fL210 := Lib.hid (fL198.out.keep (y.is))
      have fU211 := Lib.hid (fU199.out.keep (y.is))
      have fV212 := Lib.hid (fV200.out.keep (y.is))
      have fW213 := Lib.hid (fW201.out.keep (y.is))
      have fM214 := Lib.hid (fM202.out.keep (y.is))
      clear fX191 fA192 fB193 fQ194 fC195 fS196 fD197 fL198 fU199 fV200 fW201 fM202
      refine wpAnyR_more [66, 67, 68, 69] (fuel := 0) (by kernel_rfl) (fun _ _ d _ _ h => by cases d <;> exact h) (by kernel_rfl) rfl ?_
      repeat (refine wpE_step rfl (fun K hK => ?_); go_simp; (first
        | (refine hK _ ?_; clear hK K)
        | (apply Exists.intro
           refine ⟨fun z => ?_, hK _ ?_⟩
           (go_at_call 22; exact alvG L5 _ 2 _ (fM214.out.keep z.is) (HT.out.keep (etr fX203.out z.is)) HE5.out HJ5.out (rd_cells Stc_len (fS208.out.keep z.is)))
           clear hK K)))
      refine wpE_nil ?_
      intro x
      refine wpAnyR_done (by kernel_rfl) ?_ _
      go_wp2
      go_ret
      exact ⟨rfl, etr fX203.out x.is⟩
  · go_simp
    have hzb := Lib.hid fQ5.out.size
    refine hK _ _ (ext_below (eal (Ext.refl _) _) hzb.out) (fun y => ?_)
    clear hK K
    have fX6 := Lib.hid (etr fX1.out (etr (eal (Ext.refl _) _) y.is))
    have fA7 := Lib.hid (fA2.out.keep (etr (eal (Ext.refl _) _) y.is))
    have fB8 := Lib.hid (fB3.out.keep (etr (eal (Ext.refl _) _) y.is))
    have fR9 := Lib.hid (fR4.out.keep (etr (eal (Ext.refl _) _) y.is))
    have fQ10 := Lib.hid (etr fQ5.out (etr (eal (Ext.refl _) _) y.is))
    clear fX1 fA2 fB3 fR4 fQ5
    have fZ11 := Lib.hid ((Own.keep (Own.new (t := 49) (cs := #[.slice none 0 0, .int .i64 0, .int .i64 0, .int .i64 0, .int .i64 0, .int .i64 0, .int .i64 0, .string ⟨#[]⟩, .int .i64 0, .int .i64 0, .int .i64 0, .int .i64 0, .int .i64 0, .int .i64 0, .int .i64 0, .int .i64 0, .int .i64 0, .int .i64 0, .int .i64 0, .int .i64 0, .int .i64 0, .int .i64 0, .int .i64 0, .int .i64 0, .slice none 0 0, .slice none 0 0, .int .i64 0, .int .i64 0, .int .i64 0, .int .i64 0, .bool false, .int .i64 0]) rfl) y.is))
    refine wpAnyB_ready (rs := [0]) (by kernel_rfl) (by simp) (AllB.cons rfl (fun K hK => ?_) (AllB.nil))
    go_simp
    go_wp2_with fail
    refine (line5_any _).mono ?_
    rintro e ra ⟨L3, rfl, hL, hE, hJ, hB, hb⟩
    have HE3 := Lib.hid hE
    have HJ3 := Lib.hid hJ
    have hbq := Below.mono hb fQ10.out.size
    have fX12 := Lib.hid (etr fX6.out (hb))
    have fA13 := Lib.hid (fA7.out.keep (hb))
    have fB14 := Lib.hid (fB8.out.keep (hb))
    have fR15 := Lib.hid (fR9.out.keep (hb))
    have fQ16 := Lib.hid (etr fQ10.out (hb))
    have fZ17 := Lib.hid (fZ11.out.keep (hb))
    clear fX6 fA7 fB8 fR9 fQ10 fZ11
    have fL18 := Lib.hid (hL)
    clear hL hE hJ hB
    refine hK _ _ hbq (fun y => ?_)
    clear hK K hb hbq
    have fX19 := Lib.hid (etr fX12.out (y.is))
    have fA20 := Lib.hid (fA13.out.keep (y.is))
    have fB21 := Lib.hid (fB14.out.keep (y.is))
    have fR22 := Lib.hid (fR15.out.keep (y.is))
    have fQ23 := Lib.hid (etr fQ16.out (y.is))
    have fZ24 := Lib.hid (fZ17.out.keep (y.is))
    have fL25 := Lib.hid (fL18.out.keep (y.is))
    clear fX12 fA13 fB14 fR15 fQ16 fZ17 fL18
    refine wpAnyB_ready (rs := [2]) (by kernel_rfl) (by simp) (AllB.cons rfl (fun K hK => ?_) (AllB.nil))
    go_simp
    go_wp2_with fail
    refine (alvS3 L3 A2 c2 B2 cb2 K2 ck2 _ fL25.out (HT.out.keep fX19.out) HE3.out HJ3.out fR22.out).mono ?_
    rintro e rb ⟨A3, c3, B3, cb3, K3, ck3, rfl, hr, hb⟩
    have hbq := Below.mono hb fQ23.out.size
    have fX26 := Lib.hid (etr fX19.out (hb))
    have fA27 := Lib.hid (fA20.out.keep (hb))
    have fB28 := Lib.hid (fB21.out.keep (hb))
    have fR29 := Lib.hid (fR22.out.keep (hb))
    have fQ30 := Lib.hid (etr fQ23.out (hb))
    have fZ31 := Lib.hid (fZ24.out.keep (hb))
    have fL32 := Lib.hid (fL25.out.keep (hb))
    clear fX19 fA20 fB21 fR22 fQ23 fZ24 fL25
    refine hK _ _ hbq (fun y => ?_)
    clear hK K hb hbq hr
    have fX33 := Lib.hid (etr fX26.out (y.is))
    have fA34 := Lib.hid (fA27.out.keep (y.is))
    have fB35 := Lib.hid (fB28.out.keep (y.is))
    have fR36 := Lib.hid (fR29.out.keep (y.is))
    have fQ37 := Lib.hid (etr fQ30.out (y.is))
    have fZ38 := Lib.hid (fZ31.out.keep (y.is))
    have fL39 := Lib.hid (fL32.out.keep (y.is))
    clear fX26 fA27 fB28 fR29 fQ30 fZ31 fL32
    refine wpAnyB_more (by kernel_rfl) (fun _ _ d _ _ h => by cases d <;> exact h) q y.val fQ37.out [3, 4, 5, 6] 3 _ _ (by kernel_rfl) ?_ _ (Ext.refl _)
    repeat (refine wpE_step rfl (fun K hK => ?_); go_simp; refine hK _ ?_; clear hK K)
    refine wpE_nil ?_
    intro u
    have fX40 := Lib.hid (etr fX33.out (u.is))
    have fA41 := Lib.hid (fA34.out.keep (u.is))
    have fB42 := Lib.hid (fB35.out.keep (u.is))
    have fR43 := Lib.hid (fR36.out.keep (u.is))
    have fQ44 := Lib.hid (etr fQ37.out (u.is))
    have fZ45 := Lib.hid (fZ38.out.keep (u.is))
    have fL46 := Lib.hid (fL39.out.keep (u.is))
    clear fX33 fA34 fB35 fR36 fQ37 fZ38 fL39
    refine wpAnyB_ready (rs := [8]) (by kernel_rfl) (by simp) (AllB.cons rfl (fun K hK => ?_) AllB.nil)
    rw [if_pos (by rfl)]
    refine wpo_stN 49 [.slice A3 1 c3, .int .i64 15300, .int .i64 5000, .int .i64 100, .int .i64 300, .int .i64 2, .int .i64 1, .string ⟨#[110]⟩, .int .i64 5000, .int .i64 3000, .int .i64 100, .int .i64 50, .int .i64 100, .int .i64 1, .int .i64 0, .int .i64 0, .int .i64 0, .int .i64 2, .int .i64 0, .int .i64 0, .int .i64 0, .int .i64 0, .int .i64 0, .int .i64 0, .slice B3 0 cb3, .slice K3 0 ck3, .int .i64 0, .int .i64 0, .int .i64 0, .int .i64 0, .bool false, .int .i64 0] [.slice A3 1 c3, .int .i64 15300, .int .i64 5000, .int .i64 100, .int .i64 300, .int .i64 2, .int .i64 1, .string ⟨#[110]⟩, .int .i64 5000, .int .i64 3000, .int .i64 100, .int .i64 50, .int .i64 100, .int .i64 1, .int .i64 0, .int .i64 0, .int .i64 0, .int .i64 2, .int .i64 0, .int .i64 0, .int .i64 0, .int .i64 0, .int .i64 0, .int .i64 0, .slice B3 0 cb3, .slice K3 0 ck3, .int .i64 0, .int .i64 0, .int .i64 0, .int .i64 0, .bool false, .int .i64 0] rfl rfl fZ45.out rfl szUnt rfl (by show (0 + 32 : Nat) ≤ 32; decide) rfl ?_
    intro r0 H0
    have hzq := hzb.out
    have ha := HN1.out
    have hb2 := HN2.out
    refine hK _ _ (Below.only (Below.refl _ _) H0.out.2 hzq) (fun y => ?_)
    clear hK K
    have gX := Lib.hid (eonly fX40.out H0.out.2 (by have := HN3.out; omega))
    have gQ := Lib.hid (eonly fQ44.out H0.out.2 hzq)
    have gA := Lib.hid (fA41.out.only H0.out.2 (by omega))
    have gB := Lib.hid (fB42.out.only H0.out.2 (by omega))
    have gC := Lib.hid H0.out.1
    clear H0 hzq hzb ha hb2
    have fX47 := Lib.hid (etr gX.out (y.is))
    have fA48 := Lib.hid (gA.out.keep (y.is))
    have fB49 := Lib.hid (gB.out.keep (y.is))
    have fQ50 := Lib.hid (etr gQ.out (y.is))
    have fC51 := Lib.hid (gC.out.keep (y.is))
    clear gX gA gB gQ gC
    refine wpAnyB_ready (rs := [9]) (by kernel_rfl) (by simp) (AllB.cons rfl (fun K hK => ?_) AllB.nil)
    go_simp
    refine hK _ _ (Below.refl _ _) (fun y => ?_)
    clear hK K
    have fX52 := Lib.hid (etr fX47.out (y.is))
    have fA53 := Lib.hid (fA48.out.keep (y.is))
    have fB54 := Lib.hid (fB49.out.keep (y.is))
    have fQ55 := Lib.hid (etr fQ50.out (y.is))
    have fC56 := Lib.hid (fC51.out.keep (y.is))
    clear fX47 fA48 fB49 fQ50 fC51
    refine wpAnyB_ready (rs := [10]) (by kernel_rfl) (by simp) (AllB.cons rfl (fun K hK => ?_) AllB.nil)
    go_simp
    refine hK _ _ (Below.refl _ _) (fun y => ?_)
    clear hK K
    have fX57 := Lib.hid (etr fX52.out (y.is))
    have fA58 := Lib.hid (fA53.out.keep (y.is))
    have fB59 := Lib.hid (fB54.out.keep (y.is))
    have fQ60 := Lib.hid (etr fQ55.out (y.is))
    have fC61 := Lib.hid (fC56.out.keep (y.is))
    clear fX52 fA53 fB54 fQ55 fC56
    refine wpAnyB_done (by kernel_rfl) ?_ _
    go_upto_region 5 with (fail)
    obtain ⟨v, hv⟩ : ∃ v, v = ((y.val.alloc (.cells #[.int .i64 0, .int .i64 0, .int .i64 1, .int .i64 1, .int .i64 0, .int .i64 1] 75)).alloc (.cells #[.slice (some ⟨y.val.heap.size, 0, none⟩) 2 2, .int .i64 200, .int .i64 5000] 32)) := ⟨_, rfl⟩
    rw [← hv]
    have gv : Ext y.val v := by rw [hv]; exact eal (eal (Ext.refl _) _) _
    have gS : CellsAt v y.val.heap.size (exS2.flatMap Stc) := by rw [hv]; exact CellsAt.alloc (CellsAt.new rfl) _
    have gD : CellsAt v (y.val.heap.size + 1) [.slice (some ⟨y.val.heap.size, 0, none⟩) 2 2, .int .i64 200, .int .i64 5000] := by rw [hv]; exact CellsAt.new (by simp)
    have fX62 := Lib.hid (etr fX57.out (gv))
    have fA63 := Lib.hid (fA58.out.keep (gv))
    have fB64 := Lib.hid (fB59.out.keep (gv))
    have fQ65 := Lib.hid (etr fQ60.out (gv))
    have fC66 := Lib.hid (fC61.out.keep (gv))
    clear fX57 fA58 fB59 fQ60 fC61
    have fS67 := Lib.hid (gS)
    have fD68 := Lib.hid (gD)
    clear hv gv gS gD
    have HVV : Hid (Ext v v) := Ext.refl _
    refine wp_region_monoB [3] 5 (by kernel_rfl) (by kernel_rfl) (fun _ _ d _ _ h => by cases d <;> exact h) (by kernel_rfl) (by kernel_rfl) ?_
    refine wE_ldN 32 [.slice (some ⟨y.val.heap.size, 0, none⟩) 2 2, .int .i64 200, .int .i64 5000] rfl rfl rfl rfl fD68.out Tryd.underlying32 szBdy rfl ?_
    refine wpE_nil ?_
    intro x
    have fX69 := Lib.hid (etr fX62.out (x.is))
    have fA70 := Lib.hid (fA63.out.keep (x.is))
    have fB71 := Lib.hid (fB64.out.keep (x.is))
    have fQ72 := Lib.hid (etr HVV.out (x.is))
    have fC73 := Lib.hid (fC66.out.keep (x.is))
    have fS74 := Lib.hid (fS67.out.keep (x.is))
    have fD75 := Lib.hid (fD68.out.keep (x.is))
    clear fX62 fA63 fB64 HVV fC66 fS67 fD68
    refine wpAnyB_ready (rs := [0]) (by kernel_rfl) (by simp) (AllB.cons rfl (fun K hK => ?_) AllB.nil)
    go_simp
    go_wp2_with fail
    refine (line5_any _).mono ?_
    rintro e ra ⟨L4, rfl, hL, hE, hJ, hB, hb⟩
    have HE4 := Lib.hid hE
    have HJ4 := Lib.hid hJ
    have HB4 := Lib.hid hB
    have hbq := Below.mono hb fQ72.out.size
    have fX76 := Lib.hid (etr fX69.out (hb))
    have fA77 := Lib.hid (fA70.out.keep (hb))
    have fB78 := Lib.hid (fB71.out.keep (hb))
    have fQ79 := Lib.hid (etr fQ72.out (hb))
    have fC80 := Lib.hid (fC73.out.keep (hb))
    have fS81 := Lib.hid (fS74.out.keep (hb))
    have fD82 := Lib.hid (fD75.out.keep (hb))
    clear fX69 fA70 fB71 fQ72 fC73 fS74 fD75
    have fL83 := Lib.hid (hL)
    clear hL hE hJ hB
    refine hK _ _ hbq (fun y => ?_)
    clear hK K hb hbq
    have fX84 := Lib.hid (etr fX76.out (y.is))
    have fA85 := Lib.hid (fA77.out.keep (y.is))
    have fB86 := Lib.hid (fB78.out.keep (y.is))
    have fQ87 := Lib.hid (etr fQ79.out (y.is))
    have fC88 := Lib.hid (fC80.out.keep (y.is))
    have fS89 := Lib.hid (fS81.out.keep (y.is))
    have fD90 := Lib.hid (fD82.out.keep (y.is))
    have fL91 := Lib.hid (fL83.out.keep (y.is))
    clear fX76 fA77 fB78 fQ79 fC80 fS81 fD82 fL83
    refine wpAnyB_ready (rs := [1]) (by kernel_rfl) (by simp) (AllB.cons rfl (fun K hK => ?_) AllB.nil)
    go_simp
    go_wp2_with fail
    refine (unit_any 19900 0 0 _).mono ?_
    rintro e rb ⟨b5, rfl, hr, hb⟩
    have hbq := Below.mono hb fQ87.out.size
    have fX92 := Lib.hid (etr fX84.out (hb))
    have fA93 := Lib.hid (fA85.out.keep (hb))
    have fB94 := Lib.hid (fB86.out.keep (hb))
    have fQ95 := Lib.hid (etr fQ87.out (hb))
    have fC96 := Lib.hid (fC88.out.keep (hb))
    have fS97 := Lib.hid (fS89.out.keep (hb))
    have fD98 := Lib.hid (fD90.out.keep (hb))
    have fL99 := Lib.hid (fL91.out.keep (hb))
    clear fX84 fA85 fB86 fQ87 fC88 fS89 fD90 fL91
    have fU100 := Lib.hid (hr)
    refine hK _ _ hbq (fun y => ?_)
    clear hK K hb hbq hr
    have fX101 := Lib.hid (etr fX92.out (y.is))
    have fA102 := Lib.hid (fA93.out.keep (y.is))
    have fB103 := Lib.hid (fB94.out.keep (y.is))
    have fQ104 := Lib.hid (etr fQ95.out (y.is))
    have fC105 := Lib.hid (fC96.out.keep (y.is))
    have fS106 := Lib.hid (fS97.out.keep (y.is))
    have fD107 := Lib.hid (fD98.out.keep (y.is))
    have fL108 := Lib.hid (fL99.out.keep (y.is))
    have fU109 := Lib.hid (fU100.out.keep (y.is))
    clear fX92 fA93 fB94 fQ95 fC96 fS97 fD98 fL99 fU100
    have hf : ∀ x : World, (Instr.field 49 (.agg #[.slice (some ⟨b5, 0, none⟩) 1 1, .int .i64 19900, .int .i64 5000, .int .i64 0, .int .i64 0, .int .i64 0, .int .i64 1, .string ⟨#[110]⟩, .int .i64 5000, .int .i64 3000, .int .i64 100, .int .i64 50, .int .i64 100, .int .i64 1, .int .i64 0, .int .i64 0, .int .i64 0, .int .i64 0, .int .i64 0, .int .i64 0, .int .i64 0, .int .i64 0, .int .i64 0, .int .i64 0, .slice none 0 0, .slice none 0 0, .int .i64 0, .int .i64 0, .int .i64 0, .int .i64 0, .bool false, .int .i64 0]) 0).run Tryd.prog x = .ok (.agg #[.slice (some ⟨b5, 0, none⟩) 1 1, .int .i64 19900, .int .i64 5000]) x := fun _ => by kernel_rfl
    refine wpAnyB_ready (rs := [2]) (by kernel_rfl) (by simp) (AllB.cons rfl (fun K hK => ?_) AllB.nil)
    go_wp2
    refine hK _ _ (Below.refl _ _) (fun y => ?_)
    clear hK K hf
    have fX110 := Lib.hid (etr fX101.out (y.is))
    have fA111 := Lib.hid (fA102.out.keep (y.is))
    have fB112 := Lib.hid (fB103.out.keep (y.is))
    have fQ113 := Lib.hid (etr fQ104.out (y.is))
    have fC114 := Lib.hid (fC105.out.keep (y.is))
    have fS115 := Lib.hid (fS106.out.keep (y.is))
    have fD116 := Lib.hid (fD107.out.keep (y.is))
    have fL117 := Lib.hid (fL108.out.keep (y.is))
    have fU118 := Lib.hid (fU109.out.keep (y.is))
    clear fX101 fA102 fB103 fQ104 fC105 fS106 fD107 fL108 fU109
    refine wpAnyB_ready (rs := [4]) (by kernel_rfl) (by simp) (AllB.cons rfl (fun K hK => ?_) AllB.nil)
    go_simp
    go_wp2_with fail
    refine (alvR L4 _ 1 _ 2 _ fL117.out (HT.out.keep fX110.out) HE4.out HJ4.out HB4.out fU118.out (rd_cells Stc_len fS115.out)).mono ?_
    rintro e rc ⟨A5, c5, rfl, hr, hb⟩
    have hbq := Below.mono hb fQ113.out.size
    have fX119 := Lib.hid (etr fX110.out (hb))
    have fA120 := Lib.hid (fA111.out.keep (hb))
    have fB121 := Lib.hid (fB112.out.keep (hb))
    have fQ122 := Lib.hid (etr fQ113.out (hb))
    have fC123 := Lib.hid (fC114.out.keep (hb))
    have fS124 := Lib.hid (fS115.out.keep (hb))
    have fD125 := Lib.hid (fD116.out.keep (hb))
    have fL126 := Lib.hid (fL117.out.keep (hb))
    have fU127 := Lib.hid (fU118.out.keep (hb))
    clear fX110 fA111 fB112 fQ113 fC114 fS115 fD116 fL117 fU118
    have fV128 := Lib.hid (hr)
    refine hK _ _ hbq (fun y => ?_)
    clear hK K hb hbq hr
    have fX129 := Lib.hid (etr fX119.out (y.is))
    have fA130 := Lib.hid (fA120.out.keep (y.is))
    have fB131 := Lib.hid (fB121.out.keep (y.is))
    have fQ132 := Lib.hid (etr fQ122.out (y.is))
    have fC133 := Lib.hid (fC123.out.keep (y.is))
    have fS134 := Lib.hid (fS124.out.keep (y.is))
    have fD135 := Lib.hid (fD125.out.keep (y.is))
    have fL136 := Lib.hid (fL126.out.keep (y.is))
    have fU137 := Lib.hid (fU127.out.keep (y.is))
    have fV138 := Lib.hid (fV128.out.keep (y.is))
    clear fX119 fA120 fB121 fQ122 fC123 fS124 fD125 fL126 fU127 fV128
    refine wpAnyB_ready (rs := [5]) (by kernel_rfl) (by simp) (AllB.cons rfl (fun K hK => ?_) AllB.nil)
    go_simp
    refine hK _ _ (Below.refl _ _) (fun y => ?_)
    clear hK K
    have fX139 := Lib.hid (etr fX129.out (y.is))
    have fA140 := Lib.hid (fA130.out.keep (y.is))
    have fB141 := Lib.hid (fB131.out.keep (y.is))
    have fQ142 := Lib.hid (etr fQ132.out (y.is))
    have fC143 := Lib.hid (fC133.out.keep (y.is))
    have fS144 := Lib.hid (fS134.out.keep (y.is))
    have fD145 := Lib.hid (fD135.out.keep (y.is))
    have fL146 := Lib.hid (fL136.out.keep (y.is))
    have fU147 := Lib.hid (fU137.out.keep (y.is))
    have fV148 := Lib.hid (fV138.out.keep (y.is))
    clear fX129 fA130 fB131 fQ132 fC133 fS134 fD135 fL136 fU137 fV138
    refine wpAnyB_done (by kernel_rfl) ?_ _
    go_wp2_with fail
    have a1c := fA140.out.2.1 1 _ rfl
    have a3c := fA140.out.2.1 3 _ rfl
    have a4c := fA140.out.2.1 4 _ rfl
    have azc := fA140.out.1
    have b3c := fB141.out.2.1 3 _ rfl
    have b5c := fB141.out.2.1 5 _ rfl
    have bzc := fB141.out.1
    have c1c := fC143.out.2.1 1 _ rfl
    have c3c := fC143.out.2.1 3 _ rfl
    have c5c := fC143.out.2.1 5 _ rfl
    have czc := fC143.out.1
    have d0c := fD145.out.2 0 _ rfl
    have d1c := fD145.out.2 1 _ rfl
    have d2c := fD145.out.2 2 _ rfl
    have dzc := fD145.out.1
    refine wp_region_mono [0, 1, 2, 3, 4, 5, 6, 7, 8, 9, 10, 11, 12, 13, 14, 15, 16, 17, 18, 19, 20, 21, 22, 23, 24, 25, 26, 27, 28, 29, 30, 31, 32, 33, 34, 35, 36, 37, 38, 39, 40, 41, 42, 43, 44, 45, 46, 47, 48, 49, 50, 51, 52, 53, 54, 55, 56, 57, 58, 59] 10 (by kernel_rfl) (by kernel_rfl) (fun _ _ d _ _ h => by cases d <;> exact h) (by kernel_rfl) (by kernel_rfl) ?_
    repeat (refine wpE_step rfl (fun K hK => ?_); go_simp; (refine hK _ ?_; clear hK K))
    refine wpE_nil ?_
    intro x
    clear a1c a3c a4c azc b3c b5c bzc c1c c3c c5c czc d0c d1c d2c dzc
    have fX149 := Lib.hid (etr fX139.out (x.is))
    have fA150 := Lib.hid (fA140.out.keep (x.is))
    have fB151 := Lib.hid (fB141.out.keep (x.is))
    have fQ152 := Lib.hid (etr fQ142.out (x.is))
    have fC153 := Lib.hid (fC143.out.keep (x.is))
    have fS154 := Lib.hid (fS144.out.keep (x.is))
    have fD155 := Lib.hid (fD145.out.keep (x.is))
    have fL156 := Lib.hid (fL146.out.keep (x.is))
    have fU157 := Lib.hid (fU147.out.keep (x.is))
    have fV158 := Lib.hid (fV148.out.keep (x.is))
    clear fX139 fA140 fB141 fQ142 fC143 fS144 fD145 fL146 fU147 fV148
    refine wpAnyR_ready (rs := [60]) (by kernel_rfl) (by simp) (AllR.cons rfl (fun K hK => ?_) AllR.nil)
    go_simp
    have hbx : CellsAt (x.val.alloc (.cells #[.int .i64 4, .int .i64 200, .int .i64 8, .int .i64 150] 56)) x.val.heap.size (([⟨4, 200⟩, ⟨8, 150⟩] : List Rea).flatMap Rec) := CellsAt.new rfl
    have hez : Ext x.val (x.val.alloc (.cells #[.int .i64 4, .int .i64 200, .int .i64 8, .int .i64 150] 56)) := eal (Ext.refl _) _
    refine hK _ _ hez (fun y => ?_)
    clear hK K
    have fX159 := Lib.hid (etr fX149.out (etr hez y.is))
    have fA160 := Lib.hid (fA150.out.keep (etr hez y.is))
    have fB161 := Lib.hid (fB151.out.keep (etr hez y.is))
    have fQ162 := Lib.hid (etr fQ152.out (etr hez y.is))
    have fC163 := Lib.hid (fC153.out.keep (etr hez y.is))
    have fS164 := Lib.hid (fS154.out.keep (etr hez y.is))
    have fD165 := Lib.hid (fD155.out.keep (etr hez y.is))
    have fL166 := Lib.hid (fL156.out.keep (etr hez y.is))
    have fU167 := Lib.hid (fU157.out.keep (etr hez y.is))
    have fV168 := Lib.hid (fV158.out.keep (etr hez y.is))
    clear fX149 fA150 fB151 fQ152 fC153 fS154 fD155 fL156 fU157 fV158
    have fW169 := Lib.hid (hbx.keep y.is)
    clear hbx hez
    refine wpAnyR_more [61, 62, 63] (fuel := 6) (by kernel_rfl) (fun _ _ d _ _ h => by cases d <;> exact h) (by kernel_rfl) rfl ?_
    repeat (refine wpE_step rfl (fun K hK => ?_); go_simp; (first
      | (refine hK _ ?_; clear hK K)
      | (apply Exists.intro
         refine ⟨fun z => ?_, hK _ ?_⟩
         (go_at_call 20; exact sreads_any A5 c5 (some ⟨_, 0, none⟩) 2 [⟨4, 200⟩, ⟨8, 150⟩] _ (fV168.out.keep z.is) (rd_cells Rec_len (fW169.out.keep z.is)) (by decide))
         clear hK K)))
    refine wpE_nil ?_
    intro x
    have fX170 := Lib.hid (etr fX159.out (x.is))
    have fA171 := Lib.hid (fA160.out.keep (x.is))
    have fB172 := Lib.hid (fB161.out.keep (x.is))
    have fQ173 := Lib.hid (etr fQ162.out (x.is))
    have fC174 := Lib.hid (fC163.out.keep (x.is))
    have fS175 := Lib.hid (fS164.out.keep (x.is))
    have fD176 := Lib.hid (fD165.out.keep (x.is))
    have fL177 := Lib.hid (fL166.out.keep (x.is))
    have fU178 := Lib.hid (fU167.out.keep (x.is))
    have fV179 := Lib.hid (fV168.out.keep (x.is))
    have fW180 := Lib.hid (fW169.out.keep (x.is))
    clear fX159 fA160 fB161 fQ162 fC163 fS164 fD165 fL166 fU167 fV168 fW169
    have a1c := fA171.out.2.1 1 _ rfl
    have a3c := fA171.out.2.1 3 _ rfl
    have a4c := fA171.out.2.1 4 _ rfl
    have azc := fA171.out.1
    have b3c := fB172.out.2.1 3 _ rfl
    have b5c := fB172.out.2.1 5 _ rfl
    have bzc := fB172.out.1
    have c1c := fC174.out.2.1 1 _ rfl
    have c3c := fC174.out.2.1 3 _ rfl
    have c5c := fC174.out.2.1 5 _ rfl
    have czc := fC174.out.1
    have d0c := fD176.out.2 0 _ rfl
    have d1c := fD176.out.2 1 _ rfl
    have d2c := fD176.out.2 2 _ rfl
    have dzc := fD176.out.1
    refine wpAnyR_more [65] (fuel := 5) (by kernel_rfl) (fun _ _ d _ _ h => by cases d <;> exact h) (by kernel_rfl) rfl ?_
    repeat (refine wpE_step rfl (fun K hK => ?_); go_simp; (refine hK _ ?_; clear hK K))
    refine wpE_nil ?_
    intro x
    clear a1c a3c a4c azc b3c b5c bzc c1c c3c c5c czc d0c d1c d2c dzc
    have fX181 := Lib.hid (etr fX170.out (x.is))
    have fA182 := Lib.hid (fA171.out.keep (x.is))
    have fB183 := Lib.hid (fB172.out.keep (x.is))
    have fQ184 := Lib.hid (etr fQ173.out (x.is))
    have fC185 := Lib.hid (fC174.out.keep (x.is))
    have fS186 := Lib.hid (fS175.out.keep (x.is))
    have fD187 := Lib.hid (fD176.out.keep (x.is))
    have fL188 := Lib.hid (fL177.out.keep (x.is))
    have fU189 := Lib.hid (fU178.out.keep (x.is))
    have fV190 := Lib.hid (fV179.out.keep (x.is))
    have fW191 := Lib.hid (fW180.out.keep (x.is))
    clear fX170 fA171 fB172 fQ173 fC174 fS175 fD176 fL177 fU178 fV179 fW180
    refine wpAnyR_ready (rs := [64]) (by kernel_rfl) (by simp) (AllR.cons rfl (fun K hK => ?_) AllR.nil)
    go_simp
    go_wp2_with fail
    refine (line5_any _).mono ?_
    rintro e s2 ⟨L5, rfl, hL, hE, hJ, hB, hb⟩
    have HE5 := Lib.hid hE
    have HJ5 := Lib.hid hJ
    have fX192 := Lib.hid (etr fX181.out (hb))
    have fA193 := Lib.hid (fA182.out.keep (hb))
    have fB194 := Lib.hid (fB183.out.keep (hb))
    have fQ195 := Lib.hid (etr fQ184.out (hb))
    have fC196 := Lib.hid (fC185.out.keep (hb))
    have fS197 := Lib.hid (fS186.out.keep (hb))
    have fD198 := Lib.hid (fD187.out.keep (hb))
    have fL199 := Lib.hid (fL188.out.keep (hb))
    have fU200 := Lib.hid (fU189.out.keep (hb))
    have fV201 := Lib.hid (fV190.out.keep (hb))
    have fW202 := Lib.hid (fW191.out.keep (hb))
    clear fX181 fA182 fB183 fQ184 fC185 fS186 fD187 fL188 fU189 fV190 fW191
    have fM203 := Lib.hid (hL)
    refine hK _ _ hb (fun y => ?_)
    clear hK K hL hE hJ hB hb
    have fX204 := Lib.hid (etr fX192.out (y.is))
    have fA205 := Lib.hid (fA193.out.keep (y.is))
    have fB206 := Lib.hid (fB194.out.keep (y.is))
    have fQ207 := Lib.hid (etr fQ195.out (y.is))
    have fC208 := Lib.hid (fC196.out.keep (y.is))
    have fS209 := Lib.hid (fS197.out.keep (y.is))
    have fD210 := Lib.hid (fD198.out.keep (y.is))
    have fL211 := Lib.hid (fL199.out.keep (y.is))
    have fU212 := Lib.hid (fU200.out.keep (y.is))
    have fV213 := Lib.hid (fV201.out.keep (y.is))
    have fW214 := Lib.hid (fW202.out.keep (y.is))
    have fM215 := Lib.hid (fM203.out.keep (y.is))
    clear fX192 fA193 fB194 fQ195 fC196 fS197 fD198 fL199 fU200 fV201 fW202 fM203
    refine wpAnyR_more [66, 67, 68, 69] (fuel := 0) (by kernel_rfl) (fun _ _ d _ _ h => by cases d <;> exact h) (by kernel_rfl) rfl ?_
    repeat (refine wpE_step rfl (fun K hK => ?_); go_simp; (first
      | (refine hK _ ?_; clear hK K)
      | (apply Exists.intro
         refine ⟨fun z => ?_, hK _ ?_⟩
         (go_at_call 22; exact alvG L5 _ 2 _ (fM215.out.keep z.is) (HT.out.keep (etr fX204.out z.is)) HE5.out HJ5.out (rd_cells Stc_len (fS209.out.keep z.is)))
         clear hK K)))
    refine wpE_nil ?_
    intro x
    refine wpAnyR_done (by kernel_rfl) ?_ _
    go_wp2
    go_ret
    exact ⟨rfl, etr fX204.out x.is⟩
end
end Go.Proofs.YticonpjkcocgeaaDoor
