/- Walk of body.Move. -/
import Derived.Test.YticonpjkcocgeaaDoorWBodY
import Derived.Test.YticonpjkcocgeaaDoorPAll
import Derived.Test.YticonpjkcocgeaaDoorLibStp
import Derived.Test.YticonpjkcocgeaaDoorTl
import Derived.Defers
import Derived.Lib.MinMax
set_option linter.unusedVariables false
set_option linter.unusedSimpArgs false
set_option maxRecDepth 100000
namespace Go.Proofs.YticonpjkcocgeaaDoor
open Go.ChangeShapes Go.WideShapes Go.ChangeAt Go.RowKit
open Sg

theorem res_ctt {P : Program} {fn : Func} {tm : Array Value} {w : World} {a i j : Nat} {t : TypeId} {b : Nat} {fs : Array Field} {vs : List Value} {v u : Value} (hr : fn.results = #[.cell a t, .tmp i, .tmp j]) (ha : tm.getD a undef = .pointer (some ⟨b, 0, none⟩)) (hi : tm.getD i undef = v) (hj : tm.getD j undef = u)
    (hc : CellsAt w b vs) (hu : P.underlying t = some (.struct fs)) (hn : (P.info? t).map (·.size) = some vs.length) : (results fn tm).run P w = .ok (.tuple #[.agg vs.toArray, v, u]) w := by
  subst hi
  subst hj
  have ha2 : tm[a]?.getD undef = .pointer (some ⟨b, 0, none⟩) := by rw [← ha]; simp
  simp [results, hr, ha2, asAddr, run_lvN hu hn hc]
theorem szBdy : (Tryd.prog.info? 32).map (·.size) = some 3 := by kernel_rfl
section
set_option maxHeartbeats 16000000
/-- The deferred closure takes the steps away that are left. -/
theorem leave_any (L : Lay) (b4 b8 g off cap : Nat) (l : List Stp) (head len : Int) (w : World) (hL : LayOk w L) (hE : ElsOk L.els) (hin : WayIn L.els l) (hm : l.length ≤ 200) (h0 : 0 < l.length) (hh : 0 ≤ head ∧ head ≤ 1000000) (hl : 1 ≤ len ∧ len ≤ 1000000) (h4 : LayAt w b4 L) (h8 : Own w b8 [.slice (some ⟨g, off, none⟩) l.length cap, .int .i64 head, .int .i64 len]) (hT : Tl w 3 Stc g off cap l) :
    CallsD Tryd.prog 29 #[.pointer (some ⟨b4, 0, none⟩), .pointer (some ⟨b8, 0, none⟩)] .returning w fun e u' w' => u' = .returning ∧ e = .returned (.tuple #[]) ∧ ∃ w1, Ext w w1 ∧ Own w' b8 [.slice (some ⟨g, off + trimN L.els l head len * 3, none⟩) (l.length - trimN L.els l head len) (cap - trimN L.els l head len), .int .i64 head, .int .i64 len] ∧ Only b8 w1 w' := by
  have HC : Hid (Calls Tryd.prog 30 #[.agg #[.string L.name, .slice L.aS L.secs.length L.cS, .slice L.aE L.els.length L.cE, .slice L.aJ L.jts.length L.cJ, .slice L.aG L.sgs.length L.cG, .slice L.aB L.bals.length L.cB], .agg #[.slice (some ⟨g, off, none⟩) l.length cap, .int .i64 head, .int .i64 len]] w fun e w' => e = .returned (.slice (some ⟨g, off + trimN L.els l head len * 3, none⟩) (l.length - trimN L.els l head len) (cap - trimN L.els l head len)) ∧ Below w.heap.size w w') := remain_any L g off l cap head len w hL hE hT.rd hin hm h0 hT.le hh hl
  have H8 := Lib.hid h8
  obtain ⟨l0, a0, a1, a2, a3, a4, a5⟩ := layAt_cells h4
  have c0 := h8.2.1 0 _ rfl
  have c1 := h8.2.1 1 _ rfl
  have c2 := h8.2.1 2 _ rfl
  have f0 := h8.2.2 0
  have z0 := h8.1
  clear hL hE hin hm h0 hh hl h4 h8 hT
  go_enter_d Tryd.func29, Tryd.ntmps29
  go_wp2_with (go_at_call 30; refine (to_after HC.out).mono ?_; rintro e w' ⟨y, rfl, rfl⟩; have H9 := Lib.hid (H8.out.keep y.is))
  go_end0
  exact ⟨rfl, y.val, y.is, H9.out.set 0 (by simp) _, Only.set _ _ _ _⟩
theorem move_door (L : Lay) (b4 b8 g off cap : Nat) (l : List Stp) (head len : Int) (w : World) (hL : LayOk w L) (hE : ElsOk L.els) (hin : WayIn L.els l) (hm : l.length ≤ 200) (h0 : 0 < l.length) (hh : 0 ≤ head ∧ head ≤ 1000000) (hl : 1 ≤ len ∧ len ≤ 1000000) (h4 : LayAt w b4 L) (h8 : Own w b8 [.slice (some ⟨g, off, none⟩) l.length cap, .int .i64 head, .int .i64 len]) (hT : Tl w 3 Stc g off cap l) (hg : g ≠ b8)
    {fn : Func} {tmps : Array Value} {R : Ending → World → Prop} (hk : ∀ (w' : World) (off' n' cap' : Nat), n' = (trimB L.els l head len).length → Own w' b8 [.slice (some ⟨g, off', none⟩) n' cap', .int .i64 head, .int .i64 len] → Tl w' 3 Stc g off' cap' (trimB L.els l head len) → (∀ u : World, u.heap.size ≤ b8 → Ext u w → Ext u w') → ∃ v, (results fn tmps).run Tryd.prog w' = .ok v w' ∧ R (.returned v) w') :
    Go.Leaves Tryd.prog fn tmps R [{ target := .fn (.func 29) #[.pointer (some ⟨b4, 0, none⟩), .pointer (some ⟨b8, 0, none⟩)], args := #[] }] .returning w := by
  refine Go.leaves_cons (f := 29) (args := #[.pointer (some ⟨b4, 0, none⟩), .pointer (some ⟨b8, 0, none⟩)]) (by simp) (by simp [go_sem]) ?_
  refine (leave_any L b4 b8 g off cap l head len w hL hE hin hm h0 hh hl h4 h8 hT).mono ?_
  rintro e u' w'' ⟨rfl, rfl, w1, h1, h2, h3⟩
  have hdr := trim_drop L.els l head len
  obtain ⟨v, hv, hR⟩ := hk w'' _ _ _ (by rw [← hdr, List.length_drop]) h2 (by rw [← hdr]; exact ((hT.keep h1).only h3 hg).drop _ (trimN_le _ _ _ _)) (fun u hu hx => eonly (etr hx h1) h3 hu)
  exact ⟨v, hv, hR⟩
/-- What a movement leaves. -/
def MovRet (w : World) (len : Int) (z : Prop) (R : Mvd) (e : Ending) (w' : World) : Prop := ∃ A' c', (z → ∀ a, A' = some a → w.heap.size ≤ a.block) ∧ e = .returned (.tuple #[.agg #[.slice A' R.steps.length c', .int .i64 R.head, .int .i64 len], .int .i64 R.moved, .bool R.ended]) ∧ Rd w' A' 3 Stc R.steps ∧ R.steps.length ≤ c' ∧ Below w.heap.size w w'
theorem move_any (L : Lay) (Ap : Option Addr) (pos : List Int) (cp : Nat) (A : Option Addr) (way : List Stp) (c : Nat) (head len d : Int) (w : World) (hL : LayOk w L) (hT : Tabs w) (hE : ElsOk L.els) (hJ : JtsOk L.els L.jts) (h32 : L.els.length ≤ 32) (hr : Rd w A 3 Stc way) (hp : RdI w Ap pos) (hpm : pos.length ≤ maxLen) (hm : way.length ≤ 200) :
    Calls Tryd.prog 10 #[.agg #[.string L.name, .slice L.aS L.secs.length L.cS, .slice L.aE L.els.length L.cE, .slice L.aJ L.jts.length L.cJ, .slice L.aG L.sgs.length L.cG, .slice L.aB L.bals.length L.cB], .slice Ap pos.length cp, .agg #[.slice A way.length c, .int .i64 head, .int .i64 len], .int .i64 d] w (MovRet w len (chkM L.els L.jts way head len = 0) (moveV L.els L.jts pos len way head d)) := by
  have hmf : ∀ (fn : Fn) (first cap : Array Value) (w : World), (Instr.makeFunc fn first cap).run Tryd.prog w = .ok (.func fn first cap) w := fun _ _ _ _ => rfl
  have HL := Lib.hid hL
  have HT := Lib.hid hT
  have HE := Lib.hid hE
  have HJ := Lib.hid hJ
  have H32 := Lib.hid h32
  have HR := Lib.hid hr
  have HP := Lib.hid hp
  have HPM := Lib.hid hpm
  have HM := Lib.hid hm
  clear hL hT hE hJ h32 hr hp hpm hm
  have HCL : Hid (∀ w' : World, Ext w w' → Calls Tryd.prog 28 #[.slice A way.length c] w' fun e w2 => ∃ v, e = .returned v ∧ OwnL w2 w'.heap.size 75 3 Stc v way ∧ Below w'.heap.size w' w2) := fun w' h' => clone_Stp A way c w' (by have := HM.out; omega) (HR.out.keep h')
  by_cases hchk : chkM L.els L.jts way head len = 0
  case neg =>
    have HV : Hid (moveV L.els L.jts pos len way head d = ⟨way, head, 0, false⟩) := by show _ = _; unfold moveV; rw [if_neg hchk]
    obtain ⟨cv, hcv⟩ : ∃ cv, cv = chkM L.els L.jts way head len := ⟨_, rfl⟩
    rw [← hcv] at hchk
    have HCV := Lib.hid hcv
    have q1 : (cv != 0) = true := by simpa using hchk
    have q2 : (cv == 0) = false := by simpa using hchk
    clear hchk hcv
    have HCK : Hid (∀ (A1 : Option Addr) (c1 : Nat) (w' : World), Ext w w' → Rd w' A1 3 Stc way → way.length ≤ c1 → Calls Tryd.prog 24 #[.agg #[.string L.name, .slice L.aS L.secs.length L.cS, .slice L.aE L.els.length L.cE, .slice L.aJ L.jts.length L.cJ, .slice L.aG L.sgs.length L.cG, .slice L.aB L.bals.length L.cB], .agg #[.slice A1 way.length c1, .int .i64 head, .int .i64 len]] w' fun e w2 => e = .returned (.int .i64 cv) ∧ Below w'.heap.size w' w2) := fun A1 c1 w' h1 h2 h3 => by
      have := bchk_any L A1 way c1 head len w' (HL.out.keep h1) (HT.out.keep h1) HE.out h2 HM.out h3
      rw [← HCV.out] at this; exact this
    have HCK : Hid (∀ (A1 : Option Addr) (c1 : Nat) (w' : World), Ext w w' → Rd w' A1 3 Stc way → way.length ≤ c1 → Calls Tryd.prog 24 #[.agg #[.string L.name, .slice L.aS L.secs.length L.cS, .slice L.aE L.els.length L.cE, .slice L.aJ L.jts.length L.cJ, .slice L.aG L.sgs.length L.cG, .slice L.aB L.bals.length L.cB], .agg #[.slice A1 way.length c1, .int .i64 head, .int .i64 len]] w' fun e w2 => e = .returned (.int .i64 cv) ∧ Below w'.heap.size w' w2) := fun A1 c1 w' h1 h2 h3 => by
      have := bchk_any L A1 way c1 head len w' (HL.out.keep h1) (HT.out.keep h1) HE.out h2 HM.out h3
      rw [← HCV.out] at this; exact this
    have HCK : Hid (∀ (A1 : Option Addr) (c1 : Nat) (w' : World), Ext w w' → Rd w' A1 3 Stc way → way.length ≤ c1 → Calls Tryd.prog 24 #[.agg #[.string L.name, .slice L.aS L.secs.length L.cS, .slice L.aE L.els.length L.cE, .slice L.aJ L.jts.length L.cJ, .slice L.aG L.sgs.length L.cG, .slice L.aB L.bals.length L.cB], .agg #[.slice A1 way.length c1, .int .i64 head, .int .i64 len]] w' fun e w2 => e = .returned (.int .i64 cv) ∧ Below w'.heap.size w' w2) := fun A1 c1 w' h1 h2 h3 => by
      have := bchk_any L A1 way c1 head len w' (HL.out.keep h1) (HT.out.keep h1) HE.out h2 HM.out h3
      rw [← HCV.out] at this; exact this
    have HCK : Hid (∀ (A1 : Option Addr) (c1 : Nat) (w' : World), Ext w w' → Rd w' A1 3 Stc way → way.length ≤ c1 → Calls Tryd.prog 24 #[.agg #[.string L.name, .slice L.aS L.secs.length L.cS, .slice L.aE L.els.length L.cE, .slice L.aJ L.jts.length L.cJ, .slice L.aG L.sgs.length L.cG, .slice L.aB L.bals.length L.cB], .agg #[.slice A1 way.length c1, .int .i64 head, .int .i64 len]] w' fun e w2 => e = .returned (.int .i64 cv) ∧ Below w'.heap.size w' w2) := fun A1 c1 w' h1 h2 h3 => by
      have := bchk_any L A1 way c1 head len w' (HL.out.keep h1) (HT.out.keep h1) HE.out h2 HM.out h3
      rw [← HCV.out] at this; exact this
    have HCK : Hid (∀ (A1 : Option Addr) (c1 : Nat) (w' : World), Ext w w' → Rd w' A1 3 Stc way → way.length ≤ c1 → Calls Tryd.prog 24 #[.agg #[.string L.name, .slice L.aS L.secs.length L.cS, .slice L.aE L.els.length L.cE, .slice L.aJ L.jts.length L.cJ, .slice L.aG L.sgs.length L.cG, .slice L.aB L.bals.length L.cB], .agg #[.slice A1 way.length c1, .int .i64 head, .int .i64 len]] w' fun e w2 => e = .returned (.int .i64 cv) ∧ Below w'.heap.size w' w2) := fun A1 c1 w' h1 h2 h3 => by
      have := bchk_any L A1 way c1 head len w' (HL.out.keep h1) (HT.out.keep h1) HE.out h2 HM.out h3
      rw [← HCV.out] at this; exact this
    have HCK : Hid (∀ (A1 : Option Addr) (c1 : Nat) (w' : World), Ext w w' → Rd w' A1 3 Stc way → way.length ≤ c1 → Calls Tryd.prog 24 #[.agg #[.string L.name, .slice L.aS L.secs.length L.cS, .slice L.aE L.els.length L.cE, .slice L.aJ L.jts.length L.cJ, .slice L.aG L.sgs.length L.cG, .slice L.aB L.bals.length L.cB], .agg #[.slice A1 way.length c1, .int .i64 head, .int .i64 len]] w' fun e w2 => e = .returned (.int .i64 cv) ∧ Below w'.heap.size w' w2) := fun A1 c1 w' h1 h2 h3 => by
      have := bchk_any L A1 way c1 head len w' (HL.out.keep h1) (HT.out.keep h1) HE.out h2 HM.out h3
      rw [← HCV.out] at this; exact this
    have HCK : Hid (∀ (A1 : Option Addr) (c1 : Nat) (w' : World), Ext w w' → Rd w' A1 3 Stc way → way.length ≤ c1 → Calls Tryd.prog 24 #[.agg #[.string L.name, .slice L.aS L.secs.length L.cS, .slice L.aE L.els.length L.cE, .slice L.aJ L.jts.length L.cJ, .slice L.aG L.sgs.length L.cG, .slice L.aB L.bals.length L.cB], .agg #[.slice A1 way.length c1, .int .i64 head, .int .i64 len]] w' fun e w2 => e = .returned (.int .i64 cv) ∧ Below w'.heap.size w' w2) := fun A1 c1 w' h1 h2 h3 => by
      have := bchk_any L A1 way c1 head len w' (HL.out.keep h1) (HT.out.keep h1) HE.out h2 HM.out h3
      rw [← HCV.out] at this; exact this
    have HCK : Hid (∀ (A1 : Option Addr) (c1 : Nat) (w' : World), Ext w w' → Rd w' A1 3 Stc way → way.length ≤ c1 → Calls Tryd.prog 24 #[.agg #[.string L.name, .slice L.aS L.secs.length L.cS, .slice L.aE L.els.length L.cE, .slice L.aJ L.jts.length L.cJ, .slice L.aG L.sgs.length L.cG, .slice L.aB L.bals.length L.cB], .agg #[.slice A1 way.length c1, .int .i64 head, .int .i64 len]] w' fun e w2 => e = .returned (.int .i64 cv) ∧ Below w'.heap.size w' w2) := fun A1 c1 w' h1 h2 h3 => by
      have := bchk_any L A1 way c1 head len w' (HL.out.keep h1) (HT.out.keep h1) HE.out h2 HM.out h3
      rw [← HCV.out] at this; exact this
    have HCK : Hid (∀ (A1 : Option Addr) (c1 : Nat) (w' : World), Ext w w' → Rd w' A1 3 Stc way → way.length ≤ c1 → Calls Tryd.prog 24 #[.agg #[.string L.name, .slice L.aS L.secs.length L.cS, .slice L.aE L.els.length L.cE, .slice L.aJ L.jts.length L.cJ, .slice L.aG L.sgs.length L.cG, .slice L.aB L.bals.length L.cB], .agg #[.slice A1 way.length c1, .int .i64 head, .int .i64 len]] w' fun e w2 => e = .returned (.int .i64 cv) ∧ Below w'.heap.size w' w2) := fun A1 c1 w' h1 h2 h3 => by
      have := bchk_any L A1 way c1 head len w' (HL.out.keep h1) (HT.out.keep h1) HE.out h2 HM.out h3
      rw [← HCV.out] at this; exact this
    have HCK : Hid (∀ (A1 : Option Addr) (c1 : Nat) (w' : World), Ext w w' → Rd w' A1 3 Stc way → way.length ≤ c1 → Calls Tryd.prog 24 #[.agg #[.string L.name, .slice L.aS L.secs.length L.cS, .slice L.aE L.els.length L.cE, .slice L.aJ L.jts.length L.cJ, .slice L.aG L.sgs.length L.cG, .slice L.aB L.bals.length L.cB], .agg #[.slice A1 way.length c1, .int .i64 head, .int .i64 len]] w' fun e w2 => e = .returned (.int .i64 cv) ∧ Below w'.heap.size w' w2) := fun A1 c1 w' h1 h2 h3 => by
      have := bchk_any L A1 way c1 head len w' (HL.out.keep h1) (HT.out.keep h1) HE.out h2 HM.out h3
      rw [← HCV.out] at this; exact this
    have HCK : Hid (∀ (A1 : Option Addr) (c1 : Nat) (w' : World), Ext w w' → Rd w' A1 3 Stc way → way.length ≤ c1 → Calls Tryd.prog 24 #[.agg #[.string L.name, .slice L.aS L.secs.length L.cS, .slice L.aE L.els.length L.cE, .slice L.aJ L.jts.length L.cJ, .slice L.aG L.sgs.length L.cG, .slice L.aB L.bals.length L.cB], .agg #[.slice A1 way.length c1, .int .i64 head, .int .i64 len]] w' fun e w2 => e = .returned (.int .i64 cv) ∧ Below w'.heap.size w' w2) := fun A1 c1 w' h1 h2 h3 => by
      have := bchk_any L A1 way c1 head len w' (HL.out.keep h1) (HT.out.keep h1) HE.out h2 HM.out h3
      rw [← HCV.out] at this; exact this
    go_enter_defers Tryd.func10, Tryd.ntmps10
    go_wp2_with (first | (go_at_call 28; refine (HCL.out _ (eal (eal (eal (Ext.refl _) _) _) _)).mono ?_; rintro e w1 ⟨v, rfl, ho, hb⟩; have hlt := ho.lt; obtain ⟨A1, c1, rfl, hr1, hm1, hc1⟩ := ho.rdc Stc_len; have HN1 : Hid (∀ a, A1 = some a → w.heap.size + 3 ≤ a.block) := (fun a ha => by have := (hlt a.block (by rw [ha]; rfl)).1; simp at this; omega); clear hlt; have HR1 := Lib.hid hr1; have HC1 := Lib.hid hc1; clear ho hr1 hm1; have HB1 := Lib.hid hb; have g0 : w.heap.size + 1 + 1 < w1.heap.size := (by have h := hb.size; simp at h; omega); have g1 : w.heap.size + 1 < w1.heap.size := (by omega); have g2 : w.heap.size < w1.heap.size := (by omega); have HO6 : Hid (Own w1 (w.heap.size + 1) [.slice A way.length c, .int .i64 head, .int .i64 len]) := ((Own.new (by simp)).alloc _).keep hb; have HO8 : Hid (Own w1 (w.heap.size + 1 + 1) [.slice none 0 0, .int .i64 0, .int .i64 0]) := (Own.new (by simp)).keep hb; have HL4 : Hid (LayAt w1 w.heap.size L) := (CellsAt.keep (CellsAt.keep (CellsAt.new rfl) (eal (Ext.refl _) _)) (eal (Ext.refl _) _)).keep hb; have HX1 : Hid (Ext w w1) := etr (eal (eal (eal (Ext.refl _) _) _) _) hb; obtain ⟨l0, a0, a1, a2, a3, a4, a5⟩ := layAt_cells HL4.out; have b0 := HO6.out.2.1 0 _ rfl; have b1 := HO6.out.2.1 1 _ rfl; have b2 := HO6.out.2.1 2 _ rfl; have bf := HO6.out.2.2 0; have e0 := HO8.out.2.1 0 _ rfl; have e1 := HO8.out.2.1 1 _ rfl; have e2 := HO8.out.2.1 2 _ rfl; have ef0 := HO8.out.2.2 0; have ef1 := HO8.out.2.2 1; have ef2 := HO8.out.2.2 2; clear hb) | (go_at_call 24; refine (to_after (HCK.out A1 c1 _ (eset HX1.out (by omega) _ _) (HR1.out.only (Only.set _ _ _ _) (fun a e => by have := HN1.out a e; omega)) HC1.out)).mono ?_; rintro e w2 ⟨y, rfl, rfl⟩))
    have O8 := ((((HO8.out.only (Only.set w1 (w.heap.size + 1) 0 (.slice A1 way.length c1)) (by omega)).keep y.is).set 0 (by simp) (.slice A1 way.length c1)).set 1 (by simp) (.int .i64 head)).set 2 (by simp) (.int .i64 len)
    have HX2 : Hid (Ext w y.val) := etr (eset HX1.out (by omega) _ _) y.is
    refine ⟨.tuple #[.agg #[.slice A1 way.length c1, .int .i64 head, .int .i64 len], .int .i64 0, .bool false], res_ctt (b := w.heap.size + 1 + 1) (by rfl) (by rfl) (by rfl) (by rfl) O8.cells Tryd.underlying32 szBdy, A1, c1, fun _ a e => by have := HN1.out a e; omega, by rw [HV.out], ?_, by rw [HV.out]; exact HC1.out, eset (eset (eset HX2.out (by omega) _ _) (by omega) _ _) (by omega) _ _⟩
    rw [HV.out]
    have hn : ∀ a, A1 = some a → a.block ≠ w.heap.size + 1 + 1 := fun a e => by have := HN1.out a e; omega
    exact ((((HR1.out.only (Only.set _ _ _ _) (fun a e => by have := HN1.out a e; omega)).keep y.is).only (Only.set _ _ _ _) hn).only (Only.set _ _ _ _) hn).only (Only.set _ _ _ _) hn
  case pos =>
    obtain ⟨i0, hi, hz0, hz1, hz2⟩ := info_parts inf_Stp
    have HII := Lib.hid hi
    clear hi
    have HV : Hid (moveV L.els L.jts pos len way head d = movV L.els L.jts pos len way head d) := by show _ = _; unfold moveV; rw [if_pos hchk]
    have hE5 : ∀ el, hasEl L.els el → 500 ≤ (elAt L.els el).len := fun el h => by
      obtain ⟨k, x, _, hx, e⟩ := has_at h
      rw [e]; exact (HE.out k x hx).2.2.1
    have HE5 := Lib.hid hE5
    have HJO : Hid (∀ e f, joinO L.jts e = some f → hasEl L.els f.el) := join_has HJ.out
    have HST := Lib.hid (movI_start (pos := pos) (d := d) hchk hE5)
    obtain ⟨D, hD⟩ : ∃ D, D = max (0 : Int) (min d 1000000) := ⟨_, rfl⟩
    obtain ⟨R, hR⟩ : ∃ R, R = movV L.els L.jts pos len way head d := ⟨_, rfl⟩
    have HI0 : Hid (MovI L.els L.jts pos len D R 2002 way head 0) := by rw [hD, hR]; exact HST.out
    have HRE := Lib.hid hR
    have HDE := Lib.hid hD
    have hmm : max (0 : Int) (min d 1000000) = D := hD.symm
    have HW0 : Hid (0 < way.length) := HI0.out.pos_
    have HLB : Hid (1 ≤ len ∧ len ≤ 1000000) := by obtain ⟨⟨_, b2, b3, _⟩, _⟩ := chkM_zero.1 hchk; exact ⟨b2, b3⟩
    have HCK : Hid (∀ (g cap : Nat) (w' : World), Ext w w' → Rd w' (some ⟨g, 0, none⟩) 3 Stc way → way.length ≤ cap → Calls Tryd.prog 24 #[.agg #[.string L.name, .slice L.aS L.secs.length L.cS, .slice L.aE L.els.length L.cE, .slice L.aJ L.jts.length L.cJ, .slice L.aG L.sgs.length L.cG, .slice L.aB L.bals.length L.cB], .agg #[.slice (some ⟨g, 0, none⟩) way.length cap, .int .i64 head, .int .i64 len]] w' fun e w2 => e = .returned (.int .i64 0) ∧ Below w'.heap.size w' w2) := fun g cap w' h1 h2 h3 => by
      have := bchk_any L _ way cap head len w' (HL.out.keep h1) (HT.out.keep h1) HE.out h2 HM.out h3
      rw [hchk] at this; exact this
    clear hchk hE5 hR hD HST
    go_enter_defers Tryd.func10, Tryd.ntmps10
    go_wp2_with (first | (go_at_call 28; refine (HCL.out _ (eal (eal (eal (Ext.refl _) _) _) _)).mono ?_; rintro e w1 ⟨v, rfl, ho, hb⟩; obtain ⟨g, cap, rfl, hg, _, hT⟩ := Tl.of_own ho HW0.out Stc_len; have HG : Hid (w.heap.size + 3 ≤ g) := (by show _ ≤ g; simp at hg; omega); have HTL := Lib.hid hT; clear ho hg hT; have HB1 := Lib.hid hb; have g0 : w.heap.size + 1 + 1 < w1.heap.size := (by have h := hb.size; simp at h; omega); have g1 : w.heap.size + 1 < w1.heap.size := (by omega); have g2 : w.heap.size < w1.heap.size := (by omega); have HO6 : Hid (Own w1 (w.heap.size + 1) [.slice A way.length c, .int .i64 head, .int .i64 len]) := ((Own.new (by simp)).alloc _).keep hb; have HO8 : Hid (Own w1 (w.heap.size + 1 + 1) [.slice none 0 0, .int .i64 0, .int .i64 0]) := (Own.new (by simp)).keep hb; have HL4 : Hid (LayAt w1 w.heap.size L) := (CellsAt.keep (CellsAt.keep (CellsAt.new rfl) (eal (Ext.refl _) _)) (eal (Ext.refl _) _)).keep hb; have HX1 : Hid (Ext w w1) := etr (eal (eal (eal (Ext.refl _) _) _) _) hb; obtain ⟨l0, a0, a1, a2, a3, a4, a5⟩ := layAt_cells HL4.out; have b0 := HO6.out.2.1 0 _ rfl; have b1 := HO6.out.2.1 1 _ rfl; have b2 := HO6.out.2.1 2 _ rfl; have bf := HO6.out.2.2 0; have e0 := HO8.out.2.1 0 _ rfl; have e1 := HO8.out.2.1 1 _ rfl; have e2 := HO8.out.2.1 2 _ rfl; have ef0 := HO8.out.2.2 0; have ef1 := HO8.out.2.2 1; have ef2 := HO8.out.2.2 2; clear hb) | (go_at_call 24; refine (to_after (HCK.out g cap _ (eset HX1.out (by omega) _ _) (HTL.out.only (Only.set _ _ _ _) (by have := HG.out; omega)).rd HTL.out.le)).mono ?_; rintro e w2 ⟨y, rfl, rfl⟩; have y0 := lt_keep (u := w1.setCell ⟨w.heap.size + 1, 0, none⟩ (.slice (some ⟨g, 0, none⟩) way.length cap)) (by simpa using g0) y.is))
    obtain ⟨w3, hw3⟩ : ∃ w3, w3 = (((y.val.setCell ⟨w.heap.size + 1 + 1, 0, none⟩ (.slice (some ⟨g, 0, none⟩) way.length cap)).setCell ⟨w.heap.size + 1 + 1, 1, none⟩ (.int .i64 head)).setCell ⟨w.heap.size + 1 + 1, 2, none⟩ (.int .i64 len)) := ⟨_, rfl⟩
    have hgne : g ≠ w.heap.size + 1 + 1 := by have := HG.out; omega
    have HX2 : Hid (Ext w y.val) := etr (eset HX1.out (by omega) _ _) y.is
    have X3 : Hid (Ext w w3) := hw3 ▸ eset (eset (eset HX2.out (by omega) _ _) (by omega) _ _) (by omega) _ _
    have L3 : Hid (LayAt w3 w.heap.size L) := hw3 ▸ ((((HL4.out.only (Only.set _ _ _ _) (by omega)).keep y.is).only (Only.set _ _ _ _) (by omega)).only (Only.set _ _ _ _) (by omega)).only (Only.set _ _ _ _) (by omega)
    have O3 : Hid (Own w3 (w.heap.size + 1 + 1) [.slice (some ⟨g, 0, none⟩) way.length cap, .int .i64 head, .int .i64 len]) := hw3 ▸ ((((HO8.out.only (Only.set w1 (w.heap.size + 1) 0 (.slice (some ⟨g, 0, none⟩) way.length cap)) (by omega)).keep y.is).set 0 (by simp) (.slice (some ⟨g, 0, none⟩) way.length cap)).set 1 (by simp) (.int .i64 head)).set 2 (by simp) (.int .i64 len)
    have T3 : Hid (Tl w3 3 Stc g 0 cap way) := hw3 ▸ (((((HTL.out.only (Only.set _ _ _ _) (by have := HG.out; omega)).keep y.is).only (Only.set _ _ _ _) hgne).only (Only.set _ _ _ _) hgne).only (Only.set _ _ _ _) hgne)
    rw [← hw3]
    clear hw3 y0 y HX2 HL4 HO6 HO8 HTL l0 a0 a1 a2 a3 a4 a5 b0 b1 b2 bf e0 e1 e2 ef0 ef1 ef2 g0 g1 g2 hgne HX1 HB1 hmm HCK HCL w1
    go_loopg [9] 4006 (fun gk x9 wr => ∃ (l : List Stp) (hd moved : Int) (bg off cc m n : Nat), x9 = .int .i64 moved ∧ Hid (n = l.length) ∧ Hid (2 * m + (if hd < lenOf L.els (lastS l) ∧ moved < D then 1 else 0) ≤ gk) ∧ Hid (Ext w wr) ∧ Hid (LayAt wr w.heap.size L) ∧ Hid (Own wr (w.heap.size + 1 + 1) [.slice (some ⟨bg, off, none⟩) n cc, .int .i64 hd, .int .i64 len]) ∧ Hid (Tl wr 3 Stc bg off cc l) ∧ Hid (w.heap.size + 3 ≤ bg) ∧ Hid (MovI L.els L.jts pos len D R m l hd moved))
    case atStart => exact ⟨way, head, 0, g, 0, cap, 2002, way.length, rfl, rfl, by show _ ≤ 4006; split <;> omega, X3.out, L3.out, O3.out, T3.out, HG.out, HI0.out⟩
    case round =>
      obtain ⟨l, hd, moved, bg, off, cc, m, n, rfl, HN, HMS, EX, LA, OB, TL, HBG, MI⟩ := hrel
      clear X3 L3 O3 T3 HG HI0 HW0
      have HPOS : Hid (0 < l.length) := MI.out.pos_
      have HIN : Hid (WayIn L.els l) := way_in MI.out.way
      have HL64 : Hid (l.length ≤ 64) := MI.out.way.2.1
      have HLM : Hid (l.length ≤ maxLen) := by have := HL64.out; show _ ≤ _; unfold maxLen; omega
      obtain ⟨l0, a0, a1, a2, a3, a4, a5⟩ := layAt_cells LA.out
      have b0 := OB.out.2.1 0 _ rfl
      have b1 := OB.out.2.1 1 _ rfl
      have b2 := OB.out.2.1 2 _ rfl
      have bf0 := OB.out.2.2 0
      have bf1 := OB.out.2.2 1
      have bf2 := OB.out.2.2 2
      have bz := OB.out.1
      have hlast := (MI.out.way.step (lastS_get HPOS.out)).1
      obtain ⟨kE, x, hel, hx, hxe⟩ := has_at hlast
      have hxb := HE.out kE x hx
      have hll : lenOf L.els (lastS l) = x.len := by unfold lenOf; rw [hxe]
      have HLL := Lib.hid hll
      have hI0 := MI.out.h0
      have hI1 := MI.out.h1
      have hI2 := MI.out.m0
      have hI3 := MI.out.m1
      rw [hll] at hI1
      have HHD : Hid (0 ≤ hd ∧ hd ≤ 1000000) := ⟨hI0, by have := hxb.2.2.2.1; omega⟩
      have hDm : D ≤ 1000000 := by rw [HDE.out]; omega
      by_cases k1 : moved < D
      · have q1 : decide (moved < D) = true := decide_eq_true k1
        have hkE := (List.getElem?_eq_some_iff.1 hx).1
        have hmE := HL.out.lE
        unfold maxLen at hmE
        obtain ⟨bE, oE, x', hAE, hx', hbE, e0, e1, e2, e3, e4, e5, e6⟩ := rd_el HL.out.hE EX.out hkE
        rw [hx] at hx'
        cases hx'
        have HLAST : Hid (∀ w' : World, Ext wr w' → Calls Tryd.prog 31 #[.agg #[.slice (some ⟨bg, off, none⟩) n cc, .int .i64 hd, .int .i64 len]] w' fun e w2 => e = .returned (.agg #[.int .i64 (kE : Int), .int .i64 (lastS l).in_, .int .i64 (lastS l).out_]) ∧ Below w'.heap.size w' w2) := fun w' h' => by
          have := last_any (some ⟨bg, off, none⟩) l cc hd len w' (TL.out.keep h').rd HPOS.out HLM.out
          rw [hel, ← HN.out] at this; exact this
        generalize hi9 : (lastS l).in_ = li at HLAST
        generalize ho9 : (lastS l).out_ = lo at HLAST
        have hfld : ∀ x : World, (Instr.field 75 (.agg #[.int .i64 (kE : Int), .int .i64 li, .int .i64 lo]) 0).run Tryd.prog x = .ok (.int .i64 (kE : Int)) x := fun _ => by kernel_rfl
        have hlb := hxb.2.2.2.1
        have hlc := hxb.2.2.1
        have n1 : IntKind.i64.wrap (x.len - hd) = x.len - hd := IntWalk.i64_in _ (by omega)
        rw [hAE] at a2
        clear hi9 ho9 hAE hel hx hxe hll hlast hxb e0 e1 e3 e4 e5 e6
        go_upto_region 8 with (fail)
        refine wp_region_after (by kernel_rfl) (by kernel_rfl) ?_
        repeat (first | go_big_quiet_step ((first | (go_at_call 31; exact after_call _ (HLAST.out _ (After.is _))))))
        refine wpQuiet_nil ?_
        rintro _ ⟨y, rfl⟩
        have EX2 : Hid (Ext w y.val) := etr EX.out y.is
        have LA2 : Hid (LayAt y.val w.heap.size L) := LA.out.keep y.is
        have OB2 : Hid (Own y.val (w.heap.size + 1 + 1) [.slice (some ⟨bg, off, none⟩) n cc, .int .i64 hd, .int .i64 len]) := OB.out.keep y.is
        have TL2 : Hid (Tl y.val 3 Stc bg off cc l) := TL.out.keep y.is
        have HNE : Hid (bg ≠ w.heap.size + 1 + 1) := by have := HBG.out; show _ ≠ _; omega
        clear l0 a0 a1 a2 a3 a4 a5 b0 b1 b2 bf0 bf1 bf2 bz hbE e2 hfld HLAST hkE
        obtain ⟨l0, a0, a1, a2, a3, a4, a5⟩ := layAt_cells LA2.out
        have b0 := OB2.out.2.1 0 _ rfl
        have b1 := OB2.out.2.1 1 _ rfl
        have b2 := OB2.out.2.1 2 _ rfl
        have bf0 := OB2.out.2.2 0
        have bf1 := OB2.out.2.2 1
        have bf2 := OB2.out.2.2 2
        have bz := OB2.out.1
        by_cases k2 : 0 < x.len - hd
        · have q2 : decide (0 < x.len - hd) = true := decide_eq_true k2
          obtain ⟨k, hk⟩ : ∃ k, k = min (x.len - hd) (D - moved) := ⟨_, rfl⟩
          have hkk : min (x.len - hd) (D - moved) = k := hk.symm
          have n2 : IntKind.i64.wrap (D - moved) = D - moved := IntWalk.i64_in _ (by omega)
          have n3 : IntKind.i64.wrap (hd + k) = hd + k := IntWalk.i64_in _ (by omega)
          have n4 : IntKind.i64.wrap (moved + k) = moved + k := IntWalk.i64_in _ (by omega)
          have MI2 : Hid (MovI L.els L.jts pos len D R m l (hd + k) (moved + k)) := MI.out.adv (by rw [HLL.out]; exact hk) (by omega)
          have HMS2 : Hid (2 * m + (if hd + k < lenOf L.els (lastS l) ∧ moved + k < D then 1 else 0) ≤ 2 * m) := by show _ ≤ _; rw [HLL.out, if_neg (by omega)]; omega
          have HMS3 : Hid (2 * m < gk) := by have := HMS.out; rw [HLL.out, if_pos (by omega)] at this; show _ < _; omega
          clear hk
          go_wp2
          go_roundg (2 * m)
          case measure => exact HMS3.out
          case rel => exact ⟨l, hd + k, moved + k, bg, off, cc, m, n, rfl, HN.out, HMS2.out, eset EX2.out (by omega) _ _, LA2.out.only (Only.set _ _ _ _) (by omega), OB2.out.set 1 (by simp) _, TL2.out.only (Only.set _ _ _ _) HNE.out, HBG.out, MI2.out⟩
        · have q2 : decide (0 < x.len - hd) = false := decide_eq_false k2
          have q3 : decide (hd < x.len) = false := decide_eq_false (by omega)
          have HHE : Hid (hd = lenOf L.els (lastS l)) := by show _ = _; rw [HLL.out]; omega
          obtain ⟨tn, htn⟩ : ∃ tn, tn = trimN L.els l hd len := ⟨_, rfl⟩
          obtain ⟨tl, htl⟩ : ∃ tl, tl = trimB L.els l hd len := ⟨_, rfl⟩
          have hdr := trim_drop L.els l hd len
          rw [← htn, ← htl] at hdr
          have htn2 : tn ≤ l.length := by rw [htn]; exact trimN_le _ _ _ _
          have htll : l.length - tn = tl.length := by rw [← hdr, List.length_drop]
          have HTL0 : Hid (0 < tl.length) := by show 0 < _; rw [htl]; exact trimB_pos HPOS.out
          have HTL64 : Hid (tl.length ≤ 64) := by have := HL64.out; show _ ≤ _; omega
          have HTT : Hid (trimB L.els tl hd len = tl) := by show _ = _; rw [htl]; exact trimB_id (trimB_trimd _ _ _ _)
          have HTI : Hid (WayIn L.els tl) := by rw [← hdr]; exact wayIn_drop HIN.out _
          obtain ⟨off2, ho2⟩ : ∃ o, o = off + tn * 3 := ⟨_, rfl⟩
          obtain ⟨cc2, hc2⟩ : ∃ o, o = cc - tn := ⟨_, rfl⟩
          have HTRIM : Hid (∀ w' : World, Tl w' 3 Stc bg off cc l → Tl w' 3 Stc bg off2 cc2 tl) := fun w' h => by
            have := h.drop tn htn2
            rw [hdr, ← ho2, ← hc2] at this; exact this
          have HREM : Hid (Calls Tryd.prog 30 #[.agg #[.string L.name, .slice L.aS L.secs.length L.cS, .slice L.aE L.els.length L.cE, .slice L.aJ L.jts.length L.cJ, .slice L.aG L.sgs.length L.cG, .slice L.aB L.bals.length L.cB], .agg #[.slice (some ⟨bg, off, none⟩) n cc, .int .i64 hd, .int .i64 len]] y.val fun e w' => e = .returned (.slice (some ⟨bg, off2, none⟩) tl.length cc2) ∧ Below y.val.heap.size y.val w') := by
            have := remain_any L bg off l cc hd len y.val (HL.out.keep EX2.out) HE.out TL2.out.rd HIN.out (by have := HL64.out; omega) HPOS.out TL2.out.le HHD.out HLB.out
            rw [← htn, htll, ← ho2, ← hc2, ← HN.out] at this; exact this
          obtain ⟨sa, hsa⟩ : ∃ sa, sa = aheadS L.els L.jts pos tl := ⟨_, rfl⟩
          obtain ⟨ab, hab⟩ : ∃ ab, ab = aheadB L.els L.jts pos tl := ⟨_, rfl⟩
          have HAH : Hid (∀ w' : World, Ext w w' → Rd w' (some ⟨bg, off2, none⟩) 3 Stc tl → Calls Tryd.prog 32 #[.agg #[.string L.name, .slice L.aS L.secs.length L.cS, .slice L.aE L.els.length L.cE, .slice L.aJ L.jts.length L.cJ, .slice L.aG L.sgs.length L.cG, .slice L.aB L.bals.length L.cB], .slice Ap pos.length cp, .agg #[.slice (some ⟨bg, off2, none⟩) tl.length cc2, .int .i64 hd, .int .i64 len]] w' fun r w2 => r = .returned (.tuple #[.agg #[.int .i64 sa.el, .int .i64 sa.in_, .int .i64 sa.out_], .bool ab]) ∧ Below w'.heap.size w' w2) := fun w' h1 h2 => by
            have := ahead_any L Ap pos cp (some ⟨bg, off2, none⟩) tl cc2 hd len w' (HL.out.keep h1) (HT.out.keep h1) HE.out HJ.out h2 (HP.out.below h1 (Nat.le_refl _)) HPM.out (by have := HTL64.out; omega) HTL0.out
            rw [← hsa, ← hab] at this; exact this
          have HSA := Lib.hid hsa
          have HAB := Lib.hid hab
          have HTLE := Lib.hid htl
          have HK1 : Hid (moved < D) := k1
          clear htn htl hdr htn2 htll ho2 hc2 hsa hab k1 k2 hlb hlc n1 hI0 hI1 hI2 hI3
          cases hns : nextS L.els L.jts pos tl with
          | none =>
            have hn2 := aheadB_none hns
            obtain rfl : ab = false := by rw [HAB.out]; exact hn2.2.symm
            have HF := Lib.hid (MI.out.stop HK1.out HHE.out (by rw [← HTLE.out]; exact hns))
            have HRR : Hid (moveV L.els L.jts pos len way head d = ⟨tl, hd, moved, true⟩) := by show _ = _; rw [HV.out, ← HRE.out, HF.out, ← HTLE.out]
            clear hns hn2
            go_wp2_with (first | (go_at_call 30; refine (to_after HREM.out).mono ?_; rintro e w' ⟨z, rfl, rfl⟩; have z4 := lt_keep l0 z.is; have z8 := lt_keep bz z.is) | (go_at_call 32; refine (to_after (HAH.out _ (eset (etr EX2.out z.is) (by omega) _ _) (HTRIM.out _ ((TL2.out.keep z.is).only (Only.set _ _ _ _) HNE.out)).rd)).mono ?_; rintro e w' ⟨u, rfl, rfl⟩; have u4 : w.heap.size < u.val.heap.size := (by have h := u.is.size; simp at h; omega); have u8 : w.heap.size + 1 + 1 < u.val.heap.size := (by have h := u.is.size; simp at h; omega)))
            obtain ⟨W, hW⟩ : ∃ W, W = (((u.val.setCell ⟨w.heap.size + 1 + 1, 0, none⟩ (.slice (some ⟨bg, off2, none⟩) tl.length cc2)).setCell ⟨w.heap.size + 1 + 1, 1, none⟩ (.int .i64 hd)).setCell ⟨w.heap.size + 1 + 1, 2, none⟩ (.int .i64 len)).alloc (.cells #[.int .i64 sa.el, .int .i64 sa.in_, .int .i64 sa.out_] 75) := ⟨_, rfl⟩
            rw [← hW]
            have XW : Hid (Ext w W) := hW ▸ eal (eset (eset (eset (etr (eset (etr EX2.out z.is) (by omega) _ _) u.is) (by omega) _ _) (by omega) _ _) (by omega) _ _) _
            have LW : Hid (LayAt W w.heap.size L) := hW ▸ CellsAt.alloc ((((((LA2.out.keep z.is).only (Only.set _ _ _ _) (by omega)).keep u.is).only (Only.set _ _ _ _) (by omega)).only (Only.set _ _ _ _) (by omega)).only (Only.set _ _ _ _) (by omega)) _
            have OW : Hid (Own W (w.heap.size + 1 + 1) [.slice (some ⟨bg, off2, none⟩) tl.length cc2, .int .i64 hd, .int .i64 len]) := hW ▸ Own.alloc ((((((OB2.out.keep z.is).set 0 (by simp) (.slice (some ⟨bg, off2, none⟩) tl.length cc2)).keep u.is).set 0 (by simp) (.slice (some ⟨bg, off2, none⟩) tl.length cc2)).set 1 (by simp) (.int .i64 hd)).set 2 (by simp) (.int .i64 len)) _
            have TW : Hid (Tl W 3 Stc bg off2 cc2 tl) := hW ▸ Tl.keep ((((HTRIM.out _ ((TL2.out.keep z.is).only (Only.set _ _ _ _) HNE.out)).keep u.is).only (Only.set _ _ _ _) HNE.out).only (Only.set _ _ _ _) HNE.out |>.only (Only.set _ _ _ _) HNE.out) (eal (Ext.refl _) _)
            clear hW
            refine move_door L w.heap.size (w.heap.size + 1 + 1) bg off2 cc2 tl hd len W (HL.out.keep XW.out) HE.out HTI.out (by have := HTL64.out; omega) HTL0.out HHD.out HLB.out LW.out OW.out TW.out HNE.out (fun w' off' n' cap' hn O T HX => ⟨.tuple #[.agg #[.slice (some ⟨bg, off', none⟩) n' cap', .int .i64 hd, .int .i64 len], .int .i64 moved, .bool true], res_ctt (b := w.heap.size + 1 + 1) (by rfl) (by rfl) (by rfl) (by rfl) O.cells Tryd.underlying32 szBdy, some ⟨bg, off', none⟩, cap', fun _ a e => by cases e; have := HBG.out; show w.heap.size ≤ bg; omega, ?_, ?_, ?_, HX w (by omega) XW.out⟩)
            · rw [HRR.out, hn, HTT.out]
            · rw [HRR.out]; rw [HTT.out] at T; exact T.rd
            · rw [HRR.out]; rw [HTT.out] at T; exact T.le
          | some s =>
            have hn2 := aheadB_some hns
            obtain rfl : ab = true := by rw [HAB.out]; exact hn2.2.symm
            obtain rfl : sa = s := by rw [HSA.out]; exact hn2.1.symm
            obtain ⟨m', hm', hI⟩ := MI.out.next HE5.out HJO.out H32.out HK1.out HHE.out (by rw [← HTLE.out]; exact hns)
            have HI2 : Hid (MovI L.els L.jts pos len D R m' (tl ++ [sa]) 0 moved) := by rw [HTLE.out]; exact hI
            have HMS2 : Hid (2 * m' + (if 0 < lenOf L.els (lastS (tl ++ [sa])) ∧ moved < D then 1 else 0) ≤ 2 * m' + 1) := by show _ ≤ _; split <;> omega
            have HMS3 : Hid (2 * m' + 1 < gk) := by have := HMS.out; show _ < _; omega
            clear hns hn2 hm' hI
            go_wp2_with (first | (go_at_call 30; refine (to_after HREM.out).mono ?_; rintro e w' ⟨z, rfl, rfl⟩; have z4 := lt_keep l0 z.is; have z8 := lt_keep bz z.is) | (go_at_call 32; refine (to_after (HAH.out _ (eset (etr EX2.out z.is) (by omega) _ _) (HTRIM.out _ ((TL2.out.keep z.is).only (Only.set _ _ _ _) HNE.out)).rd)).mono ?_; rintro e w' ⟨u, rfl, rfl⟩; have u4 : w.heap.size < u.val.heap.size := (by have h := u.is.size; simp at h; omega); have u8 : w.heap.size + 1 + 1 < u.val.heap.size := (by have h := u.is.size; simp at h; omega); have XU : Hid (Ext w u.val) := etr (eset (etr EX2.out z.is) (by omega) _ _) u.is; have TU : Hid (Tl u.val 3 Stc bg off2 cc2 tl) := (HTRIM.out _ ((TL2.out.keep z.is).only (Only.set _ _ _ _) HNE.out)).keep u.is; have OU : Hid (Own u.val (w.heap.size + 1 + 1) [.slice (some ⟨bg, off2, none⟩) tl.length cc2, .int .i64 hd, .int .i64 len]) := ((OB2.out.keep z.is).set 0 (by simp) (.slice (some ⟨bg, off2, none⟩) tl.length cc2)).keep u.is; have LU : Hid (LayAt u.val w.heap.size L) := ((LA2.out.keep z.is).only (Only.set _ _ _ _) (by omega)).keep u.is) | (at_builtin; refine wp_appT (u := w) (g := bg) (off := off2) (cap := cc2) (xs := tl) Stc_len Stc_one Tryd.underlying30 HII.out hz0 hz1 hz2 rfl (by decide) rfl rfl ((TU.out.keep (eal (eal (Ext.refl _) _) _))) (by simp [go_sem]) (by have := HBG.out; omega) (eal (eal XU.out _) _) sa (u.val.heap.size + 1) (by simp [go_sem]) (CellsAt.new (by simp)) (by have := HTL64.out; omega) (by have := HTL64.out; unfold maxLen; omega) ?_; intro g' off' cap' w' HA; have o8 := (((OU.out.alloc _).alloc _).grownT HA.out.2.2.2.1 (by have := HNE.out; omega)); have p0 := o8.2.1 0 _ rfl; have p1 := o8.2.1 1 _ rfl; have p2 := o8.2.1 2 _ rfl; have pf0 := o8.2.2 0; have pf1 := o8.2.2 1; have pz := o8.1; have HO8 := Lib.hid o8; clear o8))
            go_roundg (2 * m' + 1)
            case measure => exact HMS3.out
            case rel =>
              have hne2 : g' ≠ w.heap.size + 1 + 1 := by
                have h1 := HNE.out
                rcases HA.out.2.2.2.2 with h | h
                · omega
                · simp at h; omega
              have hbg := HBG.out
              refine ⟨tl ++ [sa], 0, moved, g', off', cap', m', tl.length + 1, rfl, by show _ = _; simp, HMS2.out, eset (eset HA.out.2.2.1 (by omega) _ _) (by omega) _ _, ?_, (HO8.out.set 0 (by simp) _).set 1 (by simp) _, (HA.out.2.1.only (Only.set _ _ _ _) hne2).only (Only.set _ _ _ _) hne2, ?_, HI2.out⟩
              · have := (CellsAt.alloc (CellsAt.alloc LU.out (.cells #[.int .i64 sa.el, .int .i64 sa.in_, .int .i64 sa.out_] 75)) (.cells #[.int .i64 sa.el, .int .i64 sa.in_, .int .i64 sa.out_] 75)).grown HA.out.2.2.2.1 (by intro e; injection e with e; omega)
                exact (this.only (Only.set _ _ _ _) (by omega)).only (Only.set _ _ _ _) (by omega)
              · show w.heap.size + 3 ≤ g'
                rcases HA.out.2.2.2.2 with h | h
                · omega
                · simp at h; omega
      · have q1 : decide (moved < D) = false := decide_eq_false k1
        have HF := Lib.hid (MI.out.fin k1)
        have HRR : Hid (moveV L.els L.jts pos len way head d = ⟨trimB L.els l hd len, hd, moved, false⟩) := by show _ = _; rw [HV.out, ← HRE.out, HF.out]
        have HNE : Hid (bg ≠ w.heap.size + 1 + 1) := by have := HBG.out; show _ ≠ _; omega
        clear hel hx hxe hll hlast hxb
        go_wp2
        obtain ⟨W, hW⟩ : ∃ W, W = (((wr.setCell ⟨w.heap.size + 1 + 1, 0, none⟩ (.slice (some ⟨bg, off, none⟩) n cc)).setCell ⟨w.heap.size + 1 + 1, 1, none⟩ (.int .i64 hd)).setCell ⟨w.heap.size + 1 + 1, 2, none⟩ (.int .i64 len)) := ⟨_, rfl⟩
        rw [← hW]
        have XW : Hid (Ext w W) := hW ▸ eset (eset (eset EX.out (by omega) _ _) (by omega) _ _) (by omega) _ _
        have LW : Hid (LayAt W w.heap.size L) := hW ▸ ((LA.out.only (Only.set _ _ _ _) (by omega)).only (Only.set _ _ _ _) (by omega)).only (Only.set _ _ _ _) (by omega)
        have OW : Hid (Own W (w.heap.size + 1 + 1) [.slice (some ⟨bg, off, none⟩) n cc, .int .i64 hd, .int .i64 len]) := hW ▸ ((OB.out.set 0 (by simp) (.slice (some ⟨bg, off, none⟩) n cc)).set 1 (by simp) (.int .i64 hd)).set 2 (by simp) (.int .i64 len)
        have TW : Hid (Tl W 3 Stc bg off cc l) := hW ▸ ((TL.out.only (Only.set _ _ _ _) HNE.out).only (Only.set _ _ _ _) HNE.out).only (Only.set _ _ _ _) HNE.out
        clear hW
        rw [HN.out] at OW
        refine move_door L w.heap.size (w.heap.size + 1 + 1) bg off cc l hd len W (HL.out.keep XW.out) HE.out HIN.out (by have := HL64.out; omega) HPOS.out HHD.out HLB.out LW.out OW.out TW.out HNE.out (fun w' off' n' cap' hn O T HX => ⟨.tuple #[.agg #[.slice (some ⟨bg, off', none⟩) n' cap', .int .i64 hd, .int .i64 len], .int .i64 moved, .bool false], res_ctt (b := w.heap.size + 1 + 1) (by rfl) (by rfl) (by rfl) (by rfl) O.cells Tryd.underlying32 szBdy, some ⟨bg, off', none⟩, cap', fun _ a e => by cases e; have := HBG.out; show w.heap.size ≤ bg; omega, ?_, ?_, ?_, HX w (by omega) XW.out⟩)
        · rw [HRR.out, hn]
        · rw [HRR.out]; exact T.rd
        · rw [HRR.out]; exact T.le
end
end Go.Proofs.YticonpjkcocgeaaDoor
