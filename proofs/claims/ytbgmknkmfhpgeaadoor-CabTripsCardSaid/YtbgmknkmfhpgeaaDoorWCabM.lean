/- Walks: the chapter's examples. -/
import Derived.Test.YtbgmknkmfhpgeaaDoorWCabL
set_option linter.unusedVariables false
set_option linter.unusedSimpArgs false
set_option maxRecDepth 100000
namespace Go.Proofs.YtbgmknkmfhpgeaaDoor
open Go.ChangeShapes Go.WideShapes Go.ChangeAt Go.RowKit
open Sg
/-- Load of a whole struct, behind a guard that says yes. -/
theorem wp_ldG {P : Program} {w : World} {ops : Array Oper} {rest : List Oper} {o : Oper} {a : Act} {Q : Exit → Act → World → Prop} {x : Operand} {b off : Nat} {us : List Value} (t : TypeId) (vs : List Value) {fs : Array Field} (ho : o.op = .load t x) (hw : Region.wanted o (yielded ops a.tmps) = true) (hx : a.eval x = .pointer (some ⟨b, off, none⟩)) (hc : CellsAt w b us) (hu : P.underlying t = some (.struct fs))
    (hn : (P.info? t).map (·.size) = some vs.length) (hv : (us.drop off).take vs.length = vs)
    (h : wpList P ops Q rest (a.put o.dst (.agg vs.toArray)) w) : wpList P ops Q (o :: rest) a w := by
  refine BigFrame.wpList_want hw fun K hK => ?_
  unfold Oper.wp execOp
  simp only [ho, hx, Sem.run_bind, Sem.run_pure, run_ldN hu hn hc hv]
  exact hK _ _ h
def aT : Tr := ⟨7, ⟨#[116]⟩, 400, 3000, 50, 50, 100, 0, 0, 0⟩
def aS : Sgm := ⟨-500, 5000, 0, 2000⟩
def aE : Es := ⟨0, 0, 0⟩
def aC : Cb := newC aT 3
def aM : Ms := ⟨2, 0, 7, 1, 4, 1, 5000, [aS], [], 0, 0, 0, 0, false⟩
def aD : Cb := { aC with next := 0, seq := 1, en := 5000, p := [aS], k := [], mode := 2, inn := 1, heard := 4 }
theorem a_valid : validB [aS] = true := validB_true.2 ⟨by decide, fun i hi => by
  have : i = 0 := by simp at hi; omega
  subst this
  exact ⟨by simp [aS, SegOk], .inl rfl⟩⟩
theorem a_reach : reachB [aS] aE 5000 = true := reachB_true.2 ⟨a_valid, by decide, by decide, by decide⟩
theorem a_steep : steepV [aS] 0 5000 = 0 := by
  have : touchB 0 5000 aS = true := touchB_iff.2 ⟨by decide, by decide⟩
  rw [steepV, touL, if_pos a_valid, List.filter_cons, if_pos this]; rfl
theorem a_weak : weakV aT [aS] 0 5000 = 100 := by unfold weakV; rw [a_steep]; decide
theorem a_safe : safeB aT [aS] aE 5000 = true := safeB_true.2 ⟨a_reach, by show (0 : Int) + dstV 0 (weakV aT [aS] 0 5000) 0 ≤ 5000; rw [a_weak]; decide⟩
theorem a_ahead : aheadB aT [aS] aE 5000 = true := aheadB_true.2 ⟨a_reach, by show (0 : Int) + (0 + 50) + dstV (0 + 50) (weakV aT [aS] 0 5000) 0 ≤ 5000; rw [a_weak]; decide⟩
theorem a_dec : decdV aT [aS] aE 5000 2 = 0 := by
  rw [decd_rest a_ahead (by decide)]
  have := @permV_nonneg aT [aS] aE 5000 (by decide)
  rw [if_neg]
  show ¬ permV aT [aS] aE 5000 < 0
  omega
theorem a_br4 : fullBr aD 4 = 0 := by
  have e : decdV aD.T aD.p aD.E aD.en aD.brake = 0 := a_dec
  unfold fullBr
  rw [e, if_neg]
  rintro ⟨_, h⟩
  revert h; decide
theorem a_br11 : fullBr aD 11 = 1 := by
  have e : decdV aD.T aD.p aD.E aD.en aD.brake = 0 := a_dec
  unfold fullBr
  rw [if_pos ⟨e, by decide⟩]
theorem a_sup : SupB aT aE 5000 := ⟨by decide, by decide, by decide, by decide, by decide, by decide⟩
theorem a_aval : avalB 1 5000 [aS] [] = true := by
  unfold avalB
  rw [a_valid, lkvB_true.2 ⟨by decide, fun i hi => by simp at hi⟩]
  decide
theorem train_any (w : World) : Calls Tryd.prog 32 #[] w fun e w' => e = .returned (.agg #[.int .i64 7, .string ⟨#[116]⟩, .int .i64 400, .int .i64 3000, .int .i64 50, .int .i64 50, .int .i64 100, .int .i64 0, .int .i64 0, .int .i64 0]) ∧ Below w.heap.size w w' := by
  obtain ⟨w1, hw⟩ : ∃ w1, w1 = (w.alloc (.cells #[.int .i64 0, .string ⟨#[]⟩, .int .i64 0, .int .i64 0, .int .i64 0, .int .i64 0, .int .i64 0, .int .i64 0, .int .i64 0, .int .i64 0] 23)) := ⟨_, rfl⟩
  have HE0 : Hid (Ext w w1) := by rw [hw]; exact eal (Ext.refl w) _
  have HR : Hid (Own w1 (w.heap.size) [.int .i64 0, .string ⟨#[]⟩, .int .i64 0, .int .i64 0, .int .i64 0, .int .i64 0, .int .i64 0, .int .i64 0, .int .i64 0, .int .i64 0]) := by rw [hw]; exact Own.new (w := w) (cs := #[.int .i64 0, .string ⟨#[]⟩, .int .i64 0, .int .i64 0, .int .i64 0, .int .i64 0, .int .i64 0, .int .i64 0, .int .i64 0, .int .i64 0]) (t := 23) (by simp)
  go_enter Tryd.func32, Tryd.ntmps32
  go_upto_region 1 with (fail)
  rw [← hw]
  clear hw
  go_wp2_with (first | (refine wp_stN 23 [.int .i64 7, .string ⟨#[116]⟩, .int .i64 400, .int .i64 3000, .int .i64 50, .int .i64 50, .int .i64 100, .int .i64 0, .int .i64 0, .int .i64 0] [.int .i64 7, .string ⟨#[116]⟩, .int .i64 400, .int .i64 3000, .int .i64 50, .int .i64 50, .int .i64 100, .int .i64 0, .int .i64 0, .int .i64 0] rfl rfl rfl (HR.out) rfl szTr rfl (by show (0 + 10 : Nat) ≤ 10; decide) rfl ?_; intro w2 H2))
  refine bodyPost_ret (res_c (by rfl) (by rfl) (H2.out.1).cells Tryd.underlying23 szTr) rfl ⟨rfl, eonly HE0.out H2.out.2 (Nat.le_refl _)⟩

set_option maxHeartbeats 16000000 in
theorem alive_any (w : World) (ht : Tabs w) : Calls Tryd.prog 11 #[] w fun e w' => e = .returned (.bool true) ∧ Below w.heap.size w w' := by
  have HT := Lib.hid ht
  clear ht
  have HNC : Hid (∀ x, Calls Tryd.prog 24 #[.agg #[.int .i64 7, .string ⟨#[116]⟩, .int .i64 400, .int .i64 3000, .int .i64 50, .int .i64 50, .int .i64 100, .int .i64 0, .int .i64 0, .int .i64 0], .int .i64 3] x fun e w' => e = .returned (.agg #[.int .i64 7, .string ⟨#[116]⟩, .int .i64 400, .int .i64 3000, .int .i64 50, .int .i64 50, .int .i64 100, .int .i64 0, .int .i64 0, .int .i64 0, .int .i64 1, .int .i64 2, .int .i64 0, .int .i64 0, .int .i64 0, .int .i64 0, .int .i64 0, .int .i64 0, .slice none 0 0, .slice none 0 0, .int .i64 0, .int .i64 0, .int .i64 0, .int .i64 3, .bool false, .int .i64 0]) ∧ Below x.heap.size x w') := fun x => cnew_any aT 3 x
  have HRC : Hid (∀ (b : Nat) (x : World), Tabs x → Rd x (some ⟨b, 0, none⟩) 4 Sgc [aS] → Calls Tryd.prog 12 #[.agg #[.int .i64 7, .string ⟨#[116]⟩, .int .i64 400, .int .i64 3000, .int .i64 50, .int .i64 50, .int .i64 100, .int .i64 0, .int .i64 0, .int .i64 0, .int .i64 1, .int .i64 2, .int .i64 0, .int .i64 0, .int .i64 0, .int .i64 0, .int .i64 0, .int .i64 0, .slice none 0 0, .slice none 0 0, .int .i64 0, .int .i64 0, .int .i64 0, .int .i64 3, .bool false, .int .i64 0], .agg #[.int .i64 2, .int .i64 0, .int .i64 7, .int .i64 1, .int .i64 4, .int .i64 1, .int .i64 5000, .slice (some ⟨b, 0, none⟩) 1 1, .slice none 0 0, .int .i64 0, .int .i64 0, .int .i64 0, .int .i64 0, .bool false], .int .i64 4] x fun e w' =>
      ∃ A2 c2 L2 d2, e = .returned (.tuple #[.agg #[.int .i64 7, .string ⟨#[116]⟩, .int .i64 400, .int .i64 3000, .int .i64 50, .int .i64 50, .int .i64 100, .int .i64 0, .int .i64 0, .int .i64 0, .int .i64 2, .int .i64 2, .int .i64 0, .int .i64 0, .int .i64 0, .int .i64 0, .int .i64 1, .int .i64 5000, .slice A2 1 c2, .slice L2 0 d2, .int .i64 0, .int .i64 0, .int .i64 1, .int .i64 4, .bool false, .int .i64 0], .int .i64 0]) ∧ RdN x.heap.size w' A2 4 Sgc [aS] ∧ RdN x.heap.size w' L2 2 Lkc [] ∧ Below x.heap.size x w') := fun b x hx hr =>
    rec_grant aC aM none none (some ⟨b, 0, none⟩) 0 0 1 4 x (by decide) (by decide) Rd.nil Rd.nil ⟨by decide, by decide⟩ ⟨by decide, by decide⟩ hx rfl (by decide) (by decide) rfl rfl a_aval (by decide) a_sup a_safe (by decide) hr
  have HD : ∀ (br now : Int), fullBr aD now = br → I64 now → ∀ (A2 L2 : Option Addr) (c2 d2 : Nat) (x : World), Rd x A2 4 Sgc [aS] → Calls Tryd.prog 15 #[.agg #[.int .i64 7, .string ⟨#[116]⟩, .int .i64 400, .int .i64 3000, .int .i64 50, .int .i64 50, .int .i64 100, .int .i64 0, .int .i64 0, .int .i64 0, .int .i64 2, .int .i64 2, .int .i64 0, .int .i64 0, .int .i64 0, .int .i64 0, .int .i64 1, .int .i64 5000, .slice A2 1 c2, .slice L2 0 d2, .int .i64 0, .int .i64 0, .int .i64 1, .int .i64 4, .bool false, .int .i64 0], .int .i64 now] x fun e w' =>
      ∃ A3 c3 L3 d3, e = .returned (.agg #[.int .i64 7, .string ⟨#[116]⟩, .int .i64 400, .int .i64 3000, .int .i64 50, .int .i64 50, .int .i64 100, .int .i64 0, .int .i64 0, .int .i64 0, .int .i64 2, .int .i64 br, .int .i64 0, .int .i64 0, .int .i64 0, .int .i64 0, .int .i64 1, .int .i64 5000, .slice A3 1 c3, .slice L3 0 d3, .int .i64 0, .int .i64 0, .int .i64 1, .int .i64 4, .bool false, .int .i64 0]) ∧ Below x.heap.size x w' := fun br now hbr hin A2 L2 c2 d2 x hr => by
    subst hbr
    refine (dec_full aD A2 L2 c2 d2 now x (by decide) (by decide) hr Rd.nil (by decide) (by decide) a_sup ⟨by decide, by decide⟩ hin).mono ?_
    rintro e w' ⟨A3, c3, L3, d3, rfl, _, _, h⟩
    exact ⟨A3, c3, L3, d3, rfl, h⟩
  have HD4 := Lib.hid (HD 0 4 a_br4 ⟨by decide, by decide⟩)
  have HD11 := Lib.hid (HD 1 11 a_br11 ⟨by decide, by decide⟩)
  have HDC : Hid (∀ x, Calls Tryd.prog 15 #[.agg #[.int .i64 7, .string ⟨#[116]⟩, .int .i64 400, .int .i64 3000, .int .i64 50, .int .i64 50, .int .i64 100, .int .i64 0, .int .i64 0, .int .i64 0, .int .i64 1, .int .i64 2, .int .i64 0, .int .i64 0, .int .i64 0, .int .i64 0, .int .i64 0, .int .i64 0, .slice none 0 0, .slice none 0 0, .int .i64 0, .int .i64 0, .int .i64 0, .int .i64 3, .bool false, .int .i64 0], .int .i64 4] x fun e w' => ∃ A3 c3 L3 d3, e = .returned (.agg #[.int .i64 7, .string ⟨#[116]⟩, .int .i64 400, .int .i64 3000, .int .i64 50, .int .i64 50, .int .i64 100, .int .i64 0, .int .i64 0, .int .i64 0, .int .i64 1, .int .i64 2, .int .i64 0, .int .i64 0, .int .i64 0, .int .i64 0, .int .i64 0, .int .i64 0, .slice A3 0 c3, .slice L3 0 d3, .int .i64 0, .int .i64 0, .int .i64 0, .int .i64 3, .bool false, .int .i64 0]) ∧ Below x.heap.size x w') := fun x => by
    refine (dec_def aC none none 0 0 4 x (by decide) (by decide) Rd.nil Rd.nil rfl rfl rfl rfl).mono ?_
    rintro e w' ⟨A3, c3, L3, d3, rfl, _, _, h⟩
    exact ⟨A3, c3, L3, d3, rfl, h⟩
  clear HD
  go_enter Tryd.func11, Tryd.ntmps11
  go_wp2_with fail
  refine (train_any _).mono ?_
  rintro e w1 ⟨rfl, hb⟩
  have HX1 := Lib.hid hb
  clear hb
  go_wp2_with fail
  refine (HNC.out _).mono ?_
  rintro e w2 ⟨rfl, hb⟩
  have HX2 := Lib.hid (etr HX1.out hb)
  clear hb
  go_upto_region 2 with (first | (refine wp_stN 35 [.int .i64 7, .string ⟨#[116]⟩, .int .i64 400, .int .i64 3000, .int .i64 50, .int .i64 50, .int .i64 100, .int .i64 0, .int .i64 0, .int .i64 0, .int .i64 1, .int .i64 2, .int .i64 0, .int .i64 0, .int .i64 0, .int .i64 0, .int .i64 0, .int .i64 0, .slice none 0 0, .slice none 0 0, .int .i64 0, .int .i64 0, .int .i64 0, .int .i64 3, .bool false, .int .i64 0] [.int .i64 7, .string ⟨#[116]⟩, .int .i64 400, .int .i64 3000, .int .i64 50, .int .i64 50, .int .i64 100, .int .i64 0, .int .i64 0, .int .i64 0, .int .i64 1, .int .i64 2, .int .i64 0, .int .i64 0, .int .i64 0, .int .i64 0, .int .i64 0, .int .i64 0, .slice none 0 0, .slice none 0 0, .int .i64 0, .int .i64 0, .int .i64 0, .int .i64 3, .bool false, .int .i64 0] rfl rfl rfl (Own.new (w := w2) (cs := #[.int .i64 0, .string ⟨#[]⟩, .int .i64 0, .int .i64 0, .int .i64 0, .int .i64 0, .int .i64 0, .int .i64 0, .int .i64 0, .int .i64 0, .int .i64 0, .int .i64 0, .int .i64 0, .int .i64 0, .int .i64 0, .int .i64 0, .int .i64 0, .int .i64 0, .slice none 0 0, .slice none 0 0, .int .i64 0, .int .i64 0, .int .i64 0, .int .i64 0, .bool false, .int .i64 0]) (t := 35) rfl) rfl szCab rfl (by show (0 + 26 : Nat) ≤ 26; decide) rfl ?_; intro w3 H3))
  have g3 : Ext w2 w3 := eonly (eal (Ext.refl _) _) H3.out.2 (Nat.le_refl _)
  have HC3 := Lib.hid H3.out.1
  have HX3 := Lib.hid (etr HX2.out g3)
  clear g3
  go_upto_region 3 with (fail)
  obtain ⟨w4, hw4⟩ : ∃ x, x = (w3.alloc (.cells #[.int .i64 (-500), .int .i64 5000, .int .i64 0, .int .i64 2000] 77)).alloc (.cells #[.int .i64 1, .int .i64 5000, .slice (some ⟨w3.heap.size, 0, none⟩) 1 1, .slice none 0 0] 29) := ⟨_, rfl⟩
  have g4 : Ext w3 w4 := by rw [hw4]; exact eal (eal (Ext.refl _) _) _
  have HS4 : Hid (Rd w4 (some ⟨w3.heap.size, 0, none⟩) 4 Sgc [aS]) := by rw [hw4]; exact rd_cells (xs := [aS]) Sgc_len ((CellsAt.new (w := w3) rfl).alloc _)
  have HA4 : Hid (Own w4 (w3.heap.size + 1) [.int .i64 1, .int .i64 5000, .slice (some ⟨w3.heap.size, 0, none⟩) 1 1, .slice none 0 0]) := by rw [hw4]; exact Own.new (by simp)
  have HC4 := Lib.hid (HC3.out.keep g4)
  have HX4 := Lib.hid (etr HX3.out g4)
  rw [← hw4]
  clear hw4 g4
  go_wp2_with (first | (refine wp_ldN 35 [.int .i64 7, .string ⟨#[116]⟩, .int .i64 400, .int .i64 3000, .int .i64 50, .int .i64 50, .int .i64 100, .int .i64 0, .int .i64 0, .int .i64 0, .int .i64 1, .int .i64 2, .int .i64 0, .int .i64 0, .int .i64 0, .int .i64 0, .int .i64 0, .int .i64 0, .slice none 0 0, .slice none 0 0, .int .i64 0, .int .i64 0, .int .i64 0, .int .i64 3, .bool false, .int .i64 0] rfl rfl rfl (HC4.out).cells Tryd.underlying35 szCab rfl ?_) | (refine wp_ldN 29 [.int .i64 1, .int .i64 5000, .slice (some ⟨w3.heap.size, 0, none⟩) 1 1, .slice none 0 0] rfl rfl rfl (HA4.out).cells Tryd.underlying29 szAut rfl ?_))
  refine (HRC.out _ _ (HT.out.keep HX4.out) HS4.out).mono ?_
  rintro e w5 ⟨A2, c2, L2, d2, rfl, h1, h2, hb⟩
  have HC5 := Lib.hid (HC4.out.keep hb)
  have HX5 := Lib.hid (etr HX4.out hb)
  have HA5 := Lib.hid h1.1
  clear h1 h2 hb
  go_upto_region 4 with (first | (refine wp_stN 35 [.int .i64 7, .string ⟨#[116]⟩, .int .i64 400, .int .i64 3000, .int .i64 50, .int .i64 50, .int .i64 100, .int .i64 0, .int .i64 0, .int .i64 0, .int .i64 2, .int .i64 2, .int .i64 0, .int .i64 0, .int .i64 0, .int .i64 0, .int .i64 1, .int .i64 5000, .slice A2 1 c2, .slice L2 0 d2, .int .i64 0, .int .i64 0, .int .i64 1, .int .i64 4, .bool false, .int .i64 0] [.int .i64 7, .string ⟨#[116]⟩, .int .i64 400, .int .i64 3000, .int .i64 50, .int .i64 50, .int .i64 100, .int .i64 0, .int .i64 0, .int .i64 0, .int .i64 2, .int .i64 2, .int .i64 0, .int .i64 0, .int .i64 0, .int .i64 0, .int .i64 1, .int .i64 5000, .slice A2 1 c2, .slice L2 0 d2, .int .i64 0, .int .i64 0, .int .i64 1, .int .i64 4, .bool false, .int .i64 0] rfl rfl rfl (Own.new (w := w5) (cs := #[.int .i64 0, .string ⟨#[]⟩, .int .i64 0, .int .i64 0, .int .i64 0, .int .i64 0, .int .i64 0, .int .i64 0, .int .i64 0, .int .i64 0, .int .i64 0, .int .i64 0, .int .i64 0, .int .i64 0, .int .i64 0, .int .i64 0, .int .i64 0, .int .i64 0, .slice none 0 0, .slice none 0 0, .int .i64 0, .int .i64 0, .int .i64 0, .int .i64 0, .bool false, .int .i64 0]) (t := 35) rfl) rfl szCab rfl (by show (0 + 26 : Nat) ≤ 26; decide) rfl ?_; intro w6 H6))
  have g6 : Ext w5 w6 := eonly (eal (Ext.refl _) _) H6.out.2 (Nat.le_refl _)
  have HD6 := Lib.hid H6.out.1
  have HC6 := Lib.hid (HC5.out.keep g6)
  have HX6 := Lib.hid (etr HX5.out g6)
  have HA6 := Lib.hid (HA5.out.keep g6)
  clear g6
  have a10 := HC6.out.cells.2 10 _ rfl
  have a11 := HC6.out.cells.2 11 _ rfl
  have az := HC6.out.cells.1
  have b10 := HD6.out.cells.2 10 _ rfl
  have b11 := HD6.out.cells.2 11 _ rfl
  have bz := HD6.out.cells.1
  go_wp2_with (first | (refine wp_ldG 35 [.int .i64 7, .string ⟨#[116]⟩, .int .i64 400, .int .i64 3000, .int .i64 50, .int .i64 50, .int .i64 100, .int .i64 0, .int .i64 0, .int .i64 0, .int .i64 2, .int .i64 2, .int .i64 0, .int .i64 0, .int .i64 0, .int .i64 0, .int .i64 1, .int .i64 5000, .slice A2 1 c2, .slice L2 0 d2, .int .i64 0, .int .i64 0, .int .i64 1, .int .i64 4, .bool false, .int .i64 0] rfl rfl rfl (HD6.out).cells Tryd.underlying35 szCab rfl ?_))
  refine (HD4.out A2 L2 c2 d2 _ HA6.out).mono ?_
  rintro e w7 ⟨A3, c3, L3, d3, rfl, hb⟩
  clear a10 a11 az b10 b11 bz
  have HOCv1 := Lib.hid (HC6.out.keep hb)
  have HODv1 := Lib.hid (HD6.out.keep hb)
  have HNAv1 := Lib.hid (HA6.out.keep hb)
  have HXv1 := Lib.hid (etr HX6.out hb)
  clear hb
  have hf0 : ∀ x : World, (Instr.field 35 (.agg #[.int .i64 7, .string ⟨#[116]⟩, .int .i64 400, .int .i64 3000, .int .i64 50, .int .i64 50, .int .i64 100, .int .i64 0, .int .i64 0, .int .i64 0, .int .i64 2, .int .i64 0, .int .i64 0, .int .i64 0, .int .i64 0, .int .i64 0, .int .i64 1, .int .i64 5000, .slice A3 1 c3, .slice L3 0 d3, .int .i64 0, .int .i64 0, .int .i64 1, .int .i64 4, .bool false, .int .i64 0]) 2).run Tryd.prog x = .ok (.int .i64 0) x := fun _ => by kernel_rfl
  go_wp2_with (first | (refine wp_ldG 35 [.int .i64 7, .string ⟨#[116]⟩, .int .i64 400, .int .i64 3000, .int .i64 50, .int .i64 50, .int .i64 100, .int .i64 0, .int .i64 0, .int .i64 0, .int .i64 2, .int .i64 2, .int .i64 0, .int .i64 0, .int .i64 0, .int .i64 0, .int .i64 1, .int .i64 5000, .slice A2 1 c2, .slice L2 0 d2, .int .i64 0, .int .i64 0, .int .i64 1, .int .i64 4, .bool false, .int .i64 0] rfl rfl rfl (HODv1.out).cells Tryd.underlying35 szCab rfl ?_))
  refine (HD11.out A2 L2 c2 d2 _ HNAv1.out).mono ?_
  rintro e w8 ⟨A3, c3, L3, d3, rfl, hb⟩
  have HOCv2 := Lib.hid (HOCv1.out.keep hb)
  have HODv2 := Lib.hid (HODv1.out.keep hb)
  have HNAv2 := Lib.hid (HNAv1.out.keep hb)
  have HXv2 := Lib.hid (etr HXv1.out hb)
  clear hb
  have hf1 : ∀ x : World, (Instr.field 35 (.agg #[.int .i64 7, .string ⟨#[116]⟩, .int .i64 400, .int .i64 3000, .int .i64 50, .int .i64 50, .int .i64 100, .int .i64 0, .int .i64 0, .int .i64 0, .int .i64 2, .int .i64 1, .int .i64 0, .int .i64 0, .int .i64 0, .int .i64 0, .int .i64 1, .int .i64 5000, .slice A3 1 c3, .slice L3 0 d3, .int .i64 0, .int .i64 0, .int .i64 1, .int .i64 4, .bool false, .int .i64 0]) 2).run Tryd.prog x = .ok (.int .i64 1) x := fun _ => by kernel_rfl
  go_wp2_with (first | (refine wp_ldG 35 [.int .i64 7, .string ⟨#[116]⟩, .int .i64 400, .int .i64 3000, .int .i64 50, .int .i64 50, .int .i64 100, .int .i64 0, .int .i64 0, .int .i64 0, .int .i64 1, .int .i64 2, .int .i64 0, .int .i64 0, .int .i64 0, .int .i64 0, .int .i64 0, .int .i64 0, .slice none 0 0, .slice none 0 0, .int .i64 0, .int .i64 0, .int .i64 0, .int .i64 3, .bool false, .int .i64 0] rfl rfl rfl (HOCv2.out).cells Tryd.underlying35 szCab rfl ?_))
  refine (HDC.out _).mono ?_
  rintro e w9 ⟨A3, c3, L3, d3, rfl, hb⟩
  have HOCv3 := Lib.hid (HOCv2.out.keep hb)
  have HODv3 := Lib.hid (HODv2.out.keep hb)
  have HNAv3 := Lib.hid (HNAv2.out.keep hb)
  have HXv3 := Lib.hid (etr HXv2.out hb)
  clear hb
  have hf2 : ∀ x : World, (Instr.field 35 (.agg #[.int .i64 7, .string ⟨#[116]⟩, .int .i64 400, .int .i64 3000, .int .i64 50, .int .i64 50, .int .i64 100, .int .i64 0, .int .i64 0, .int .i64 0, .int .i64 1, .int .i64 2, .int .i64 0, .int .i64 0, .int .i64 0, .int .i64 0, .int .i64 0, .int .i64 0, .slice A3 0 c3, .slice L3 0 d3, .int .i64 0, .int .i64 0, .int .i64 0, .int .i64 3, .bool false, .int .i64 0]) 2).run Tryd.prog x = .ok (.int .i64 2) x := fun _ => by kernel_rfl
  go_wp2
  go_ret
  exact ⟨rfl, HXv3.out⟩
end Go.Proofs.YtbgmknkmfhpgeaaDoor
