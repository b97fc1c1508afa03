/- Walks of the laws RestrictionSets and RestrictionPuts; Few. -/
import Derived.Test.YtacnfchoemndeaaDoorWLawJ
set_option linter.unusedVariables false
set_option linter.unusedSimpArgs false
set_option maxRecDepth 100000
namespace Go.Proofs.YtacnfchoemndeaaDoor
open Go.ChangeShapes Go.WideShapes Go.ChangeAt Go.RowKit
open Sg

def FewL (L : Lay) : Prop := L.secs.length ≤ 60 ∧ L.els.length ≤ 60 ∧ L.jts.length ≤ 100 ∧ L.sgs.length ≤ 60 ∧ L.bals.length ≤ 60
instance (L : Lay) : Decidable (FewL L) := by unfold FewL; infer_instance
def fewB (L : Lay) : Bool := decide (FewL L)
theorem fewB_true {L : Lay} : fewB L = true ↔ FewL L := by simp [fewB]
theorem fewB_false {L : Lay} : fewB L = false ↔ ¬ FewL L := by simp [fewB]
theorem few_any (L : Lay) (w : World) : Calls Tryd.prog 8 #[.agg #[.string L.name, .slice L.aS L.secs.length L.cS, .slice L.aE L.els.length L.cE, .slice L.aJ L.jts.length L.cJ, .slice L.aG L.sgs.length L.cG, .slice L.aB L.bals.length L.cB]] w fun e w' => e = .returned (.bool (fewB L)) ∧ Below w.heap.size w w' := by
  have key : (fewB L = false ∧ (decide ((L.secs.length : Int) ≤ 60) = false ∨ (decide ((L.secs.length : Int) ≤ 60) = true ∧ decide ((L.els.length : Int) ≤ 60) = false) ∨ (decide ((L.secs.length : Int) ≤ 60) = true ∧ decide ((L.els.length : Int) ≤ 60) = true ∧ decide ((L.jts.length : Int) ≤ 100) = false) ∨ (decide ((L.secs.length : Int) ≤ 60) = true ∧ decide ((L.els.length : Int) ≤ 60) = true ∧ decide ((L.jts.length : Int) ≤ 100) = true ∧ decide ((L.sgs.length : Int) ≤ 60) = false) ∨ (decide ((L.secs.length : Int) ≤ 60) = true ∧ decide ((L.els.length : Int) ≤ 60) = true ∧ decide ((L.jts.length : Int) ≤ 100) = true ∧ decide ((L.sgs.length : Int) ≤ 60) = true ∧ decide ((L.bals.length : Int) ≤ 60) = false))) ∨ (fewB L = true ∧ decide ((L.secs.length : Int) ≤ 60) = true ∧ decide ((L.els.length : Int) ≤ 60) = true ∧ decide ((L.jts.length : Int) ≤ 100) = true ∧ decide ((L.sgs.length : Int) ≤ 60) = true ∧ decide ((L.bals.length : Int) ≤ 60) = true) := by
    by_cases s1 : (L.secs.length : Int) ≤ 60
    · by_cases s2 : (L.els.length : Int) ≤ 60
      · by_cases s3 : (L.jts.length : Int) ≤ 100
        · by_cases s4 : (L.sgs.length : Int) ≤ 60
          · by_cases s5 : (L.bals.length : Int) ≤ 60
            · exact .inr ⟨fewB_true.2 ⟨by omega, by omega, by omega, by omega, by omega⟩, decide_eq_true s1, decide_eq_true s2, decide_eq_true s3, decide_eq_true s4, decide_eq_true s5⟩
            · exact .inl ⟨fewB_false.2 (fun h => by have := h.2.2.2.2; omega), .inr (.inr (.inr (.inr ⟨decide_eq_true s1, decide_eq_true s2, decide_eq_true s3, decide_eq_true s4, decide_eq_false s5⟩)))⟩
          · exact .inl ⟨fewB_false.2 (fun h => by have := h.2.2.2.1; omega), .inr (.inr (.inr (.inl ⟨decide_eq_true s1, decide_eq_true s2, decide_eq_true s3, decide_eq_false s4⟩)))⟩
        · exact .inl ⟨fewB_false.2 (fun h => by have := h.2.2.1; omega), .inr (.inr (.inl ⟨decide_eq_true s1, decide_eq_true s2, decide_eq_false s3⟩))⟩
      · exact .inl ⟨fewB_false.2 (fun h => by have := h.2.1; omega), .inr (.inl ⟨decide_eq_true s1, decide_eq_false s2⟩)⟩
    · exact .inl ⟨fewB_false.2 (fun h => by have := h.1; omega), .inl (decide_eq_false s1)⟩
  rcases key with ⟨hv, h1 | ⟨h1, h2⟩ | ⟨h1, h2, h3⟩ | ⟨h1, h2, h3, h4⟩ | ⟨h1, h2, h3, h4, h5⟩⟩ | ⟨hv, h1, h2, h3, h4, h5⟩
  all_goals have HV := Lib.hid hv
  all_goals clear hv
  all_goals go_enter Tryd.func8, Tryd.ntmps8
  all_goals go_wp2
  all_goals go_ret
  all_goals exact ⟨ret_bool HV.out.symm, eal (Ext.refl _) _⟩
set_option maxHeartbeats 8000000 in
theorem law_sets (A : Option Addr) (l : List Rst) (c : Nat) (id : Int) (act : Bool) (w : World) (hT : Tabs w) (hm : l.length ≤ maxLen) (hc : l.length ≤ c) (hr : Rd w A 6 Rsc l) :
    Calls Tryd.prog 4 #[.slice A l.length c, .int .i64 id, .bool act] w fun e w' => e = .returned (.bool true) ∧ Below w.heap.size w w' := by
  have HT := Lib.hid hT
  have HR := Lib.hid hr
  have HC := Lib.hid hc
  clear hT hr hc hm
  by_cases k : 40 < l.length
  · have q : decide ((40 : Int) < (l.length : Int)) = true := decide_eq_true (by omega)
    go_enter Tryd.func4, Tryd.ntmps4
    go_wp2_with (go_at_call 9; refine (alive_any _ HT.out).mono ?_; rintro e w1 ⟨rfl, hb⟩; have HB1 := Lib.hid hb; clear hb)
    go_ret
    exact ⟨rfl, HB1.out⟩
  · have q : decide ((40 : Int) < (l.length : Int)) = false := decide_eq_false (by omega)
    obtain ⟨qs, hq⟩ : ∃ qs, qs = setL l id act := ⟨_, rfl⟩
    obtain ⟨en, he⟩ : ∃ en, en = setE l id act := ⟨_, rfl⟩
    have HS1 : Hid (∀ w', Ext w w' → Calls Tryd.prog 15 #[.slice A l.length c, .int .i64 id, .bool act] w' fun e w'' => ∃ v, e = .returned (.tuple #[v, .int .i64 en]) ∧ OwnL w'' w'.heap.size 31 6 Rsc v qs ∧ Below w'.heap.size w' w'') := fun w' h => by
      rw [hq, he]; exact set_any A l c id act w' (by omega) HC.out (HR.out.keep h)
    have HS2 : Hid (∀ w', Ext w w' → Calls Tryd.prog 16 #[.slice A l.length c, .int .i64 id, .bool act] w' fun e w'' => ∃ v, e = .returned (.tuple #[v, .int .i64 en]) ∧ OwnL w'' w'.heap.size 31 6 Rsc v qs ∧ Below w'.heap.size w' w'') := fun w' h => by
      rw [hq, he]; exact rset_any A l c id act w' (by omega) HC.out (HR.out.keep h)
    have hsame : sml_rs qs qs = true := sml_rs_true.2 rfl
    have HSS := Lib.hid hsame
    clear hq he hsame
    go_enter Tryd.func4, Tryd.ntmps4
    go_wp2_with (first
      | (go_at_call 15; refine (HS1.out _ (Ext.refl _)).mono ?_; rintro e w1 ⟨v1, rfl, ho, hb⟩; obtain ⟨A1, c1, rfl, hr1, hm1, hc1⟩ := ho.rdc Rsc_len; have HR1 := Lib.hid hr1; have HM1 := Lib.hid hm1; have HB1 := Lib.hid hb; clear ho hr1 hm1 hc1 hb)
      | (go_at_call 16; refine (HS2.out _ HB1.out).mono ?_; rintro e w2 ⟨v2, rfl, ho, hb⟩; obtain ⟨A2, c2, rfl, hr2, hm2, hc2⟩ := ho.rdc Rsc_len; have HR2 := Lib.hid hr2; have HM2 := Lib.hid hm2; have HB2 := Lib.hid hb; clear ho hr2 hm2 hc2 hb)
      | (go_at_call 14; refine (same_rs A1 A2 qs qs c1 c2 _ HM1.out HM1.out (HR1.out.keep HB2.out) HR2.out).mono ?_; rw [HSS.out]; rintro e w3 ⟨rfl, hb⟩; have HB3 := Lib.hid hb; clear hb)
      | (go_at_call 9; refine (alive_any _ (HT.out.keep (etr (etr HB1.out HB2.out) HB3.out))).mono ?_; rintro e w4 ⟨rfl, hb⟩; have HB4 := Lib.hid hb; clear hb))
    go_ret
    exact ⟨rfl, etr (etr (etr HB1.out HB2.out) HB3.out) HB4.out⟩
set_option maxHeartbeats 8000000 in
theorem law_puts (L : Lay) (A : Option Addr) (l : List Rst) (c : Nat) (r : Rst) (w : World) (hT : Tabs w) (hL : LayOk w L) (hm : l.length ≤ maxLen) (hc : l.length ≤ c) (hr : Rd w A 6 Rsc l) :
    Calls Tryd.prog 3 #[.agg #[.string L.name, .slice L.aS L.secs.length L.cS, .slice L.aE L.els.length L.cE, .slice L.aJ L.jts.length L.cJ, .slice L.aG L.sgs.length L.cG, .slice L.aB L.bals.length L.cB], .slice A l.length c, .agg #[.int .i64 r.id, .int .i64 r.el, .int .i64 r.from_, .int .i64 r.to_, .int .i64 r.speed, .bool r.act]] w fun e w' => e = .returned (.bool true) ∧ Below w.heap.size w w' := by
  have HT := Lib.hid hT
  have HL := Lib.hid hL
  have HR := Lib.hid hr
  have HC := Lib.hid hc
  clear hT hL hr hc hm
  have E0 : Hid (Ext w ((w.alloc (.cells #[.string L.name, .slice L.aS L.secs.length L.cS, .slice L.aE L.els.length L.cE, .slice L.aJ L.jts.length L.cJ, .slice L.aG L.sgs.length L.cG, .slice L.aB L.bals.length L.cB] 28)).alloc (.cells #[.int .i64 r.id, .int .i64 r.el, .int .i64 r.from_, .int .i64 r.to_, .int .i64 r.speed, .bool r.act] 31))) := eal (eal (Ext.refl _) _) _
  have key : fewB L = false ∨ (fewB L = true ∧ (40 < l.length ∨ ¬ 40 < l.length)) := by cases fewB L <;> simp; omega
  rcases key with hf | ⟨hf, k | k⟩
  · have HF := Lib.hid hf
    clear hf
    go_enter Tryd.func3, Tryd.ntmps3
    go_wp2_with (first
      | (go_at_call 8; refine (to_after (few_any L _)).mono ?_; rw [HF.out]; rintro e w' ⟨y, rfl, rfl⟩)
      | (go_at_call 9; refine (alive_any _ (HT.out.keep (etr E0.out (After.is _)))).mono ?_; rintro e w1 ⟨rfl, hb⟩; have HB1 := Lib.hid (etr (After.is _) hb); clear hb))
    go_ret
    exact ⟨rfl, etr E0.out HB1.out⟩
  · have HF := Lib.hid hf
    have q : decide ((40 : Int) < (l.length : Int)) = true := decide_eq_true (by omega)
    clear hf
    go_enter Tryd.func3, Tryd.ntmps3
    go_wp2_with (first
      | (go_at_call 8; refine (to_after (few_any L _)).mono ?_; rw [HF.out]; rintro e w' ⟨y, rfl, rfl⟩)
      | (go_at_call 9; refine (alive_any _ (HT.out.keep (etr E0.out (After.is _)))).mono ?_; rintro e w1 ⟨rfl, hb⟩; have HB1 := Lib.hid (etr (After.is _) hb); clear hb))
    go_ret
    exact ⟨rfl, etr E0.out HB1.out⟩
  · have HF := Lib.hid hf
    have q : decide ((40 : Int) < (l.length : Int)) = false := decide_eq_false (by omega)
    clear hf
    obtain ⟨qs, hq⟩ : ∃ qs, qs = putL L.els l r := ⟨_, rfl⟩
    obtain ⟨en, he⟩ : ∃ en, en = putE L.els l r := ⟨_, rfl⟩
    have HS1 : Hid (∀ w', Ext w w' → Calls Tryd.prog 10 #[.agg #[.string L.name, .slice L.aS L.secs.length L.cS, .slice L.aE L.els.length L.cE, .slice L.aJ L.jts.length L.cJ, .slice L.aG L.sgs.length L.cG, .slice L.aB L.bals.length L.cB], .slice A l.length c, .agg #[.int .i64 r.id, .int .i64 r.el, .int .i64 r.from_, .int .i64 r.to_, .int .i64 r.speed, .bool r.act]] w' fun e w'' => ∃ v, e = .returned (.tuple #[v, .int .i64 en]) ∧ OwnL w'' w'.heap.size 31 6 Rsc v qs ∧ Below w'.heap.size w' w'') := fun w' h => by
      rw [hq, he]; exact put_any L r A l c w' (HL.out.keep h) (by omega) HC.out (HR.out.keep h)
    have HS2 : Hid (∀ w', Ext w w' → Calls Tryd.prog 11 #[.agg #[.string L.name, .slice L.aS L.secs.length L.cS, .slice L.aE L.els.length L.cE, .slice L.aJ L.jts.length L.cJ, .slice L.aG L.sgs.length L.cG, .slice L.aB L.bals.length L.cB], .slice A l.length c, .agg #[.int .i64 r.id, .int .i64 r.el, .int .i64 r.from_, .int .i64 r.to_, .int .i64 r.speed, .bool r.act]] w' fun e w'' => ∃ v, e = .returned (.tuple #[v, .int .i64 en]) ∧ OwnL w'' w'.heap.size 31 6 Rsc v qs ∧ Below w'.heap.size w' w'') := fun w' h => by
      rw [hq, he]; exact rput_any L r A l c w' (HL.out.keep h) (by omega) HC.out (HR.out.keep h)
    have hsame : sml_rs qs qs = true := sml_rs_true.2 rfl
    have HSS := Lib.hid hsame
    clear hq he hsame
    go_enter Tryd.func3, Tryd.ntmps3
    go_upto_region 3 with (go_at_call 8; refine (to_after (few_any L _)).mono ?_; rw [HF.out]; rintro e w' ⟨y, rfl, rfl⟩)
    have E1 : Hid (Ext w y.val) := etr E0.out y.is
    have L1 : Hid (LayAt y.val w.heap.size L) := CellsAt.keep (CellsAt.keep (CellsAt.new rfl) (eal (Ext.refl _) _)) y.is
    have R1 : Hid (RstAt y.val (w.heap.size + 1) r) := CellsAt.keep (CellsAt.new (by simp)) y.is
    go_upto_region 4 with (go_at_call 10; refine (HS1.out _ E1.out).mono ?_; rintro e w1 ⟨v1, rfl, ho, hb⟩; obtain ⟨A1, c1, rfl, hr1, hm1, hc1⟩ := ho.rdc Rsc_len; have HR1 := Lib.hid hr1; have HM1 := Lib.hid hm1; have HB1 := Lib.hid hb; clear ho hr1 hm1 hc1 hb)
    obtain ⟨l0, a0, a1, a2, a3, a4, a5⟩ := layAt_cells (L1.out.keep HB1.out)
    obtain ⟨r0, b0, b1, b2, b3, b4, b5⟩ := rstAt_cells (R1.out.keep HB1.out)
    go_upto_region 5 with (go_at_call 11; refine (HS2.out _ (etr E1.out HB1.out)).mono ?_; rintro e w2 ⟨v2, rfl, ho, hb⟩; obtain ⟨A2, c2, rfl, hr2, hm2, hc2⟩ := ho.rdc Rsc_len; have HR2 := Lib.hid hr2; have HM2 := Lib.hid hm2; have HB2 := Lib.hid hb; clear ho hr2 hm2 hc2 hb)
    clear l0 a0 a1 a2 a3 a4 a5 r0 b0 b1 b2 b3 b4 b5
    have E2 : Hid (Ext w w2) := etr (etr E1.out HB1.out) HB2.out
    obtain ⟨l0, a0, a1, a2, a3, a4, a5⟩ := layAt_cells ((L1.out.keep HB1.out).keep HB2.out)
    obtain ⟨r0, b0, b1, b2, b3, b4, b5⟩ := rstAt_cells ((R1.out.keep HB1.out).keep HB2.out)
    refine wp_region_after (by kernel_rfl) (by kernel_rfl) ?_
    repeat (first | go_big_quiet_step (first
      | (go_at_call 12; exact after_call _ (chk_any L r _ (HL.out.keep (etr E2.out (After.is _)))))
      | (go_at_call 13; exact after_call _ (rchk_any L r _ (HL.out.keep (etr E2.out (After.is _)))))
      | (go_at_call 14; exact after_call _ (HSS.out ▸ same_rs A1 A2 qs qs c1 c2 _ HM1.out HM1.out (HR1.out.keep (etr HB2.out (After.is _))) (HR2.out.keep (After.is _))))
      | (go_at_call 9; exact after_call _ (alive_any _ (HT.out.keep (etr E2.out (After.is _)))))))
    refine wpQuiet_nil ?_
    rintro _ ⟨z, rfl⟩
    go_wp2
    go_ret
    exact ⟨rfl, etr E2.out z.is⟩
end Go.Proofs.YtacnfchoemndeaaDoor
