/- Walks of chapter 10's laws: ProfileCuts. -/
import Derived.Test.YtoodehilgogomaaWLawB4
import Derived.Test.YtoodehilgogomaaWProfJ
import Derived.IntWalk
set_option linter.unusedVariables false
set_option linter.unusedSimpArgs false
namespace Go.Proofs.Ytoodehilgogomaa
open Go.ChangeShapes Go.WideShapes Go.ChangeAt Go.RowKit
open Sg

/-- What the law says of a profile, its two parts and what Join makes of them. -/
structure CutFacts (p : List Sgm) (x : Int) (a b : List Sgm) : Prop where
  la : a.length ≤ p.length
  lb : b.length ≤ p.length
  big : joinE a b ≠ 0 → joinE a b = 2 ∧ a.length + b.length = p.length + 1 ∧ p.length = 128
  ok : joinE a b = 0 → (∀ y, (atO p y = none ∧ atO (joinL a b) y = none) ∨ ∃ s u, atO p y = some s ∧ atO (joinL a b) y = some u ∧ likeP s u) ∧
    (((x ≤ headF p ∨ lastT p ≤ x ∨ ∃ s ∈ p, s.from_ = x) ∧ joinL a b = p) ∨ (¬ (x ≤ headF p ∨ lastT p ≤ x ∨ ∃ s ∈ p, s.from_ = x) ∧ (joinL a b).length = p.length + 1))
theorem like_at {p q : List Sgm} (hp : validB p = true) (hq : validB q = true) {y : Int} (h : atLike y p q) : (atO p y = none ∧ atO q y = none) ∨ ∃ s u, atO p y = some s ∧ atO q y = some u ∧ likeP s u := by
  unfold atO; rw [if_pos hp, if_pos hq]; exact h
theorem valid_nil : validB [] = true := validB_true.2 ⟨by simp, fun i hi => by simp at hi⟩
theorem cut_facts {p : List Sgm} {x : Int} (hv : validB p = true) (h0 : 0 < p.length) : CutFacts p x (cutL p (headF p) x) (cutL p x (lastT p)) := by
  obtain ⟨e, hc⟩ := ch_of (validB_true.1 hv)
  have hle := ch_last hc h0
  have hp := (validB_true.1 hv).1
  have ea : cutL p (headF p) x = loF x p := by rw [cutL, if_pos hv, cut_lo hc (Int.le_refl _)]
  have eb : cutL p x (lastT p) = hiF x p := by rw [cutL, if_pos hv, cut_hi hc (by rw [hle]; exact Int.le_refl _)]
  rw [ea, eb]
  have hlo : (loF x p).length ≤ p.length := by unfold loF; rw [List.length_map]; exact List.length_filter_le _ _
  have hhi : (hiF x p).length ≤ p.length := by unfold hiF; rw [List.length_map]; exact List.length_filter_le _ _
  by_cases c1 : x ≤ headF p
  · obtain ⟨i1, i2⟩ := hi_all hc c1
    have hj := join_ok (p := ([] : List Sgm)) (q := p) valid_nil hv (.inl rfl) (by simpa using hp)
    rw [List.nil_append] at hj
    rw [i1, i2]
    refine ⟨by simp, Nat.le_refl _, fun h => absurd hj.1 h, fun _ => ⟨fun y => ?_, .inl ⟨.inl c1, hj.2⟩⟩⟩
    rw [hj.2]; exact like_at hv hv (atLike.refl y p)
  · by_cases c2 : e ≤ x
    · obtain ⟨i1, i2⟩ := lo_all hc c2
      have hj := join_ok (p := p) (q := ([] : List Sgm)) hv valid_nil (.inr (.inl rfl)) (by simpa using hp)
      rw [List.append_nil] at hj
      rw [i1, i2]
      refine ⟨Nat.le_refl _, by simp, fun h => absurd hj.1 h, fun _ => ⟨fun y => ?_, .inl ⟨.inr (.inl (by rw [hle]; exact c2)), hj.2⟩⟩⟩
      rw [hj.2]; exact like_at hv hv (atLike.refl y p)
    · obtain ⟨k1, k2, k3, k4⟩ := cut_in hc (show headF p < x by omega) (show x < e by omega)
      have va : validB (loF x p) = true := validB_true.2 (valid_of k1 (by omega))
      have vb : validB (hiF x p) = true := validB_true.2 (valid_of k2 (by omega))
      have na : 0 < (loF x p).length := by
        cases h : loF x p with
        | nil => rw [h] at k1; have : headF p = x := k1; omega
        | cons _ _ => simp
      have nb : 0 < (hiF x p).length := by
        cases h : hiF x p with
        | nil => rw [h] at k2; have : x = e := k2; omega
        | cons _ _ => simp
      have hm : lastT (loF x p) = headF (hiF x p) := by rw [ch_last k1 na, ch_head k2 nb]
      have kl : ((loF x p) ++ (hiF x p)).length = (loF x p).length + (hiF x p).length := List.length_append
      refine ⟨hlo, hhi, fun h => ?_, fun h => ?_⟩
      · have hbig : 128 < (loF x p).length + (hiF x p).length := by
          refine Classical.byContradiction fun hh => h (join_ok va vb (.inr (.inr hm)) (by omega)).1
        refine ⟨(join_big va vb (.inr (.inr hm)) hbig).1, ?_⟩
        rcases k3 with ⟨_, k3⟩ | ⟨_, k3⟩
        · rw [k3] at kl; omega
        · omega
      · have hsm : (loF x p).length + (hiF x p).length ≤ 128 := by
          refine Classical.byContradiction fun hh => ?_
          have := (join_big va vb (.inr (.inr hm)) (by omega)).1
          omega
        have hj := (join_ok va vb (.inr (.inr hm)) hsm).2
        have hvj : validB (loF x p ++ hiF x p) = true := validB_true.2 (valid_of (k1.append k2) (by rw [kl]; exact hsm))
        rw [hj]
        refine ⟨fun y => like_at hv hvj (k4 y), ?_⟩
        rcases k3 with ⟨k3, k5⟩ | ⟨k3, k5⟩
        · exact .inl ⟨.inr (.inr k3), k5⟩
        · refine .inr ⟨fun hh => ?_, k5⟩
          rcases hh with hh | hh | ⟨s, hs, hx⟩
          · exact c1 hh
          · exact c2 (by rw [hle] at hh; exact hh)
          · exact k3 s hs hx
theorem rd_cell {α : Type} {w : World} {b off k : Nat} {enc : α → List Value} {xs : List α} (h : Rd w (some ⟨b, off, none⟩) k enc xs) {i j : Nat} {x : α} {v : Value} (hi : xs[i]? = some x) (hj : (enc x)[j]? = some v) : w.cell? ⟨b, off + i * k + j, none⟩ = some v := by
  obtain ⟨b', off', e, _, h2⟩ := h (by have := (List.getElem?_eq_some_iff.1 hi).1; omega)
  injection e with e
  injection e with e1 e2
  subst e1 e2
  exact h2 i x hi j v hj
def btwP (p : List Sgm) (x : Int) (k : Nat) (b : Bool) : Prop := b = true ↔ (x ≤ headF p ∨ lastT p ≤ x ∨ ∃ s ∈ p.take k, s.from_ = x)
theorem any_take {p : List Sgm} {k : Nat} {s : Sgm} (h : p[k]? = some s) (x : Int) : (∃ u ∈ p.take (k + 1), u.from_ = x) ↔ (∃ u ∈ p.take k, u.from_ = x) ∨ s.from_ = x := by
  obtain ⟨hl, rfl⟩ := List.getElem?_eq_some_iff.1 h
  rw [List.take_succ_eq_append_getElem hl]
  constructor
  · rintro ⟨u, hu, hx⟩
    rcases List.mem_append.1 hu with hu | hu
    · exact .inl ⟨u, hu, hx⟩
    · simp at hu; subst hu; exact .inr hx
  · rintro (⟨u, hu, hx⟩ | hx)
    · exact ⟨u, List.mem_append.2 (.inl hu), hx⟩
    · exact ⟨p[k], List.mem_append.2 (.inr (List.mem_singleton.2 rfl)), hx⟩
set_option maxRecDepth 100000 in
set_option maxHeartbeats 16000000 in
theorem cuts_walk (A : Option Addr) (p : List Sgm) (cap : Nat) (x : Int) (w : World) (hm : p.length ≤ maxLen) (hr : Rd w A 4 Sgc p) :
    Calls Try.prog 7 #[.slice A p.length cap, .int .i64 x] w fun e w' => e = .returned (.bool true) ∧ Below w.heap.size w w' := by
  have HM := Lib.hid hm
  have HR := Lib.hid hr
  unfold maxLen at hm
  clear hr
  by_cases hall : p.length ≤ 300 ∧ validB p = true ∧ 0 < p.length
  · obtain ⟨hl, hv, h0⟩ := hall
    have HF := Lib.hid (cut_facts (x := x) hv h0)
    have hl2 : p.length ≤ 128 := (validB_true.1 hv).1
    have HVP := Lib.hid hv
    have d2 : ((p.length : Int) == 0) = false := by rw [beq_eq_false_iff_ne]; omega
    have HV5 : Hid (∀ q : List Sgm, sameL q q = true) := fun q => sameL_true.2 rfl
    clear hv
    go_enter Try.func7, Try.ntmps7
    go_wp2_with fail
    refine (to_after (valid_any A p cap _ HM.out HR.out)).mono ?_
    rintro e w' ⟨y0, rfl, rfl⟩
    rw [HVP.out]
    go_wp2_with fail
    obtain ⟨b, off, s0, rfl, hs0, hbs, c0, c1, c2, c3⟩ := rd_seg (k := 0) HR.out y0.is h0
    obtain ⟨b', off', s9, hA, hs9, hbs', d0, d1, d2', d3⟩ := rd_seg (k := p.length - 1) HR.out y0.is (by omega)
    injection hA with hA
    injection hA with hA1 hA2
    subst hA1 hA2
    have c0' : y0.val.cell? ⟨b, off, none⟩ = some (.int .i64 s0.from_) := by simpa using c0
    have eh := head_at hs0
    have el := last_at hs9
    obtain ⟨a, ha⟩ : ∃ a, a = cutL p s0.from_ x := ⟨_, rfl⟩
    obtain ⟨q, hq⟩ : ∃ q, q = cutL p x s9.to_ := ⟨_, rfl⟩
    rw [eh, el, ← ha, ← hq] at HF
    have HA := Lib.hid ha
    have HQ := Lib.hid hq
    have HEH := Lib.hid eh
    have HEL := Lib.hid el
    have HS0 := Lib.hid hs0
    have HS9 := Lib.hid hs9
    have la := HF.out.la
    have lq := HF.out.lb
    clear hs0 hs9 ha hq eh el
    have n1 : IntKind.i64.wrap ((p.length : Int) - 1) = (p.length : Int) - 1 := IntWalk.i64_in _ (by omega)
    have n2 : ((p.length : Int) - 1).toNat = p.length - 1 := by omega
    have n3 : (0 : Int) ≤ (p.length : Int) - 1 := by omega
    have n4 : (p.length : Int) - 1 < (p.length : Int) := by omega
    have n5 : (1 : Int) ≤ (p.length : Int) := by omega
    have n6 : 1 ≤ p.length := by omega
    have n7 : p.length - 1 < p.length := by omega
    refine wp_region_mono [0, 1, 2, 3, 4, 5, 7, 8, 9, 10, 11, 12, 13, 14, 15] 4 (by kernel_rfl) (by kernel_rfl) (fun _ _ d _ _ h => by cases d <;> exact h) (by kernel_rfl) (by kernel_rfl) ?_
    repeat (refine wpE_step rfl (fun K hK => ?_); go_simp; (refine hK _ ?_; clear hK K))
    refine wpE_nil ?_
    intro z
    have HB0 := Lib.hid (etr y0.is z.is)
    clear n1 n2
    refine wpAnyR_ready (rs := [6]) (by kernel_rfl) (by simp) (AllR.cons rfl (fun K hK => ?_) AllR.nil)
    go_simp
    go_wp2_with fail
    refine (cut_any _ p cap s0.from_ x _ (by omega) (HR.out.keep HB0.out)).mono ?_
    rintro e w1 ⟨u1, rfl, ho1, hb1⟩
    rw [← HA.out] at ho1
    obtain ⟨A1, cap1, rfl, hr1, hm1⟩ := ho1.rd Sgc_len
    have HR1 := Lib.hid hr1
    have HB1 := Lib.hid (etr HB0.out hb1)
    have HM1 := Lib.hid hm1
    refine hK _ _ hb1 (fun y => ?_)
    clear hK K ho1 hr1 hb1 hm1
    refine wpAnyR_ready (rs := [16]) (by kernel_rfl) (by simp) (AllR.cons rfl (fun K hK => ?_) AllR.nil)
    go_simp
    go_wp2_with fail
    refine (cut_any _ p cap x s9.to_ _ (by omega) (HR.out.keep (etr HB1.out y.is))).mono ?_
    rintro e w2 ⟨u2, rfl, ho2, hb2⟩
    rw [← HQ.out] at ho2
    obtain ⟨A2, cap2, rfl, hr2, hm2⟩ := ho2.rd Sgc_len
    have HR2 := Lib.hid hr2
    have HB2 := Lib.hid (etr (etr HB1.out y.is) hb2)
    have HR3 := Lib.hid ((HR1.out.keep y.is).keep hb2)
    refine hK _ _ hb2 (fun z2 => ?_)
    clear hK K ho2 hr2 hb2 hm2
    refine wpAnyR_more [17, 18] (fuel := 0) (by kernel_rfl) (fun _ _ d _ _ h => by cases d <;> exact h) (by kernel_rfl) rfl ?_
    repeat (refine wpE_step rfl (fun K hK => ?_); go_simp; (refine hK _ ?_; clear hK K))
    refine wpE_nil ?_
    intro z3
    refine wpAnyR_done (by kernel_rfl) ?_ _
    have HB4 := Lib.hid (etr (etr HB2.out z2.is) z3.is)
    have HE4 := Lib.hid (etr z2.is z3.is)
    obtain ⟨w4, hw4⟩ : ∃ w4, w4 = z3.val := ⟨_, rfl⟩
    rw [← hw4] at HB4 HE4 ⊢
    clear hw4
    go_wp2_with fail
    refine (join_any A1 A2 a q cap1 cap2 _ (by omega) (by omega) (HR3.out.keep HE4.out) (HR2.out.keep HE4.out)).mono ?_
    rintro e w5 ⟨u5, rfl, ho5, hb5⟩
    obtain ⟨A5, cap5, rfl, hr5, hm5⟩ := ho5.rd Sgc_len
    have HR5 := Lib.hid hr5
    have HB5 := Lib.hid (etr HB4.out hb5)
    have HM5 := Lib.hid hm5
    clear ho5 hr5 hb5 hm5
    clear c0 c1 c2 c3 d0 d1 d2' d3 c0'
    by_cases he : joinE a q = 0
    · obtain ⟨F1, F2⟩ := HF.out.ok he
      have HF1 := Lib.hid F1
      have HF2 := Lib.hid F2
      rw [he]
      clear F1 F2 he
      have g0 : w5.cell? ⟨b, off, none⟩ = some (.int .i64 s0.from_) := by simpa using rd_cell (HR.out.keep HB5.out) HS0.out (j := 0) (v := .int .i64 s0.from_) rfl
      have g9 : w5.cell? ⟨b, off + (p.length - 1) * 4 + 1, none⟩ = some (.int .i64 s9.to_) := rd_cell (HR.out.keep HB5.out) HS9.out (j := 1) rfl
      have gb : b < w5.heap.size := by have := esz (etr HB0.out (Ext.refl _)); have hz := HB5.out.size; have := (HR.out h0); obtain ⟨b3, off3, e3, h3, _⟩ := this; injection e3 with e3; injection e3 with e3 e4; omega
      have key : (x ≤ s0.from_) ∨ (decide (x ≤ s0.from_) = false ∧ s9.to_ ≤ x) ∨ (decide (x ≤ s0.from_) = false ∧ decide (s9.to_ ≤ x) = false) := by
        simp only [decide_eq_false_iff_not]; omega
      rcases key with c1 | ⟨c1, c2⟩ | ⟨c1, c2⟩
      · have HI : Hid (btwP p x 0 true) := by show (_ ↔ _); rw [HEH.out]; simp [c1]
        go_wp2
        go_loopg [9, 97] p.length (fun g bt i wr => ∃ (k : Nat) (bb : Bool), i = .int .i64 k ∧ k ≤ p.length ∧ g = p.length - k ∧ bt = .bool bb ∧ Hid (Ext w5 wr ∧ (btwP p x k bb)))
        case atStart => exact ⟨0, _, rfl, by omega, rfl, rfl, Ext.refl _, HI.out⟩
        case round => 
          obtain ⟨k, bb, rfl, hk, hg, rfl, H⟩ := hrel
          have HG := Lib.hid hg
          clear hg g0 g9 gb c1 
          by_cases hlt : k < p.length
          · obtain ⟨b4, off4, s, hA4, hs, hbs4, c0, c1, c2, c3⟩ := rd_seg HR.out (etr HB5.out H.out.1) hlt
            injection hA4 with hA4
            injection hA4 with hA41 hA42
            subst hA41 hA42
            have HT := Lib.hid (any_take hs x)
            have hso := segOk_of HVP.out hs
            have s1 : -9223372036854775808 ≤ s.to_ - 1 := by obtain ⟨_, _, _, _⟩ := hso; omega
            clear hs hso
            have key : ∃ b2 : Bool, Hid (btwP p x (k + 1) b2) ∧ (bb = true ∧ b2 = true ∨ (bb = false ∧ (s.from_ == x) = b2)) := by
              refine ⟨bb || (s.from_ == x), ?_, ?_⟩
              · show _ ↔ _
                rw [Bool.or_eq_true, show (bb = true ↔ _) from H.out.2, HT.out, beq_iff_eq]
                constructor
                · rintro ((h | h | h) | h)
                  · exact .inl h
                  · exact .inr (.inl h)
                  · exact .inr (.inr (.inl h))
                  · exact .inr (.inr (.inr h))
                · rintro (h | h | h | h)
                  · exact .inl (.inl h)
                  · exact .inl (.inr (.inl h))
                  · exact .inl (.inr (.inr h))
                  · exact .inr h
              · cases bb
                · exact .inr ⟨rfl, rfl⟩
                · exact .inl ⟨rfl, rfl⟩
            obtain ⟨b2, HN, hb⟩ := key
            rcases hb with ⟨rfl, rfl⟩ | ⟨rfl, hb⟩
            all_goals go_wp2
            all_goals go_loopg [118] 4 (fun g i wj => ∃ j : Nat, i = .int .i64 j ∧ j ≤ 4 ∧ g = 4 - j ∧ Hid (Ext w5 wj ∧ ∃ L4 : List Int, L4.length = 4 ∧ CellsAt wj (wr.heap.size + 1) (L4.map (Value.int .i64))))
            all_goals first
              | (case atStart => exact ⟨0, rfl, by omega, rfl, eal (eal H.out.1 _) _, [_, _, _, _], rfl, CellsAt.new (by simp)⟩)
              | skip
            all_goals
              obtain ⟨j, rfl, hj, hg2, H2⟩ := hrel
              have HG2 := Lib.hid hg2
              clear hg2 c0 c1 c2 c3
              by_cases hlt2 : j < 4
              · obtain ⟨L4, hl4, hc4⟩ := H2.out.2
                obtain ⟨yv, hyv⟩ : ∃ y, L4[j]? = some y := ⟨_, List.getElem?_eq_getElem (by omega)⟩
                have cy := hc4.2 j (.int .i64 yv) (by simp [hyv])
                have zy := hc4.1
                have HC4 := Lib.hid hc4
                have HL4 := Lib.hid hl4
                clear hyv hc4 hl4
                have HRp := Lib.hid (HR.out.keep (etr HB5.out H2.out.1))
                have HRq := Lib.hid (HR5.out.keep H2.out.1)
                rcases HF1.out yv with ⟨k1, k2⟩ | ⟨s1, u1, k1, k2, k3, k4⟩
                · have K1 := Lib.hid k1
                  have K2 := Lib.hid k2
                  clear k1 k2
                  go_wp2_with fail
                  refine (to_after (at_no _ p cap yv wr HM.out HRp.out K1.out)).mono ?_
                  rintro e w' ⟨y1, rfl, rfl⟩
                  go_wp2_with fail
                  refine (to_after (at_no A5 (joinL a q) cap5 yv _ HM5.out ((HRq.out.keep y1.is).keep (eal (Ext.refl _) _)) K2.out)).mono ?_
                  rintro e w' ⟨y2, rfl, rfl⟩
                  have zb : y1.val.heap.size < y2.val.heap.size := by have := y2.is.size; simp at this; omega
                  go_wp2
                  go_roundg (4 - (j + 1))
                  case measure => have := HG2.out; omega
                  case rel => exact ⟨j + 1, by go_num, by omega, rfl, eal (etr (eal (etr H2.out.1 y1.is) _) y2.is) _, L4, HL4.out, ((((HC4.out.low y1.is).alloc _).low y2.is).alloc _)⟩
                · have K1 := Lib.hid k1
                  have K2 := Lib.hid k2
                  have t1 : (s1.grade != u1.grade) = false := by rw [k3]; simp
                  have t2 : (s1.speed != u1.speed) = false := by rw [k4]; simp
                  clear k1 k2 k3 k4
                  go_wp2_with fail
                  refine (to_after (at_is _ p cap yv s1 wr HM.out HRp.out K1.out)).mono ?_
                  rintro e w' ⟨y1, rfl, rfl⟩
                  go_wp2_with fail
                  refine (to_after (at_is A5 (joinL a q) cap5 yv u1 _ HM5.out ((HRq.out.keep y1.is).keep (eal (Ext.refl _) _)) K2.out)).mono ?_
                  rintro e w' ⟨y2, rfl, rfl⟩
                  have zb : y1.val.heap.size < y2.val.heap.size := by have := y2.is.size; simp at this; omega
                  go_wp2
                  go_roundg (4 - (j + 1))
                  case measure => have := HG2.out; omega
                  case rel => exact ⟨j + 1, by go_num, by omega, rfl, eal (etr (eal (etr H2.out.1 y1.is) _) y2.is) _, L4, HL4.out, ((((HC4.out.low y1.is).alloc _).low y2.is).alloc _)⟩
              · go_wp2
                go_roundg (p.length - (k + 1))
                case measure => have := HG.out; omega
                case rel => exact ⟨k + 1, _, by go_num, by omega, rfl, rfl, H2.out.1, HN.out⟩
          · have hb : bb = true ↔ _ := H.out.2
            rw [List.take_of_length_le (by omega)] at hb
            rcases HF2.out with ⟨k1, k2⟩ | ⟨k1, k2⟩
            · have := hb.2 k1
              subst this
              have HS : Hid (sameL p (joinL a q) = true) := sameL_true.2 k2.symm
              clear hb k1 k2
              go_wp2_with fail
              refine (to_after (same_any _ A5 p (joinL a q) cap cap5 _ HM.out HM5.out (HR.out.keep (etr HB5.out H.out.1)) (HR5.out.keep H.out.1))).mono ?_
              rintro e w' ⟨y8, rfl, rfl⟩
              rw [HS.out]
              go_wp2_with fail
              refine (in_after y8 (alive_any _)).mono ?_
              rintro e w' ⟨y9, rfl, rfl⟩
              go_wp2_with fail
              go_ret
              exact ⟨rfl, etr (etr HB5.out H.out.1) y9.is⟩
            · have : bb = false := by
                cases bb
                · rfl
                · exact absurd (hb.1 rfl) k1
              subst this
              have t1 : (((joinL a q).length : Int) == (p.length : Int) + 1) = true := by rw [beq_iff_eq]; omega
              clear hb k1 k2
              go_wp2_with (go_at_call 8; refine (to_after (alive_any _)).mono ?_; rintro e w' ⟨y9, rfl, rfl⟩)
              go_ret
              exact ⟨rfl, etr (etr HB5.out H.out.1) y9.is⟩
      · have HI : Hid (btwP p x 0 true) := by show (_ ↔ _); rw [HEL.out]; simp [c2]
        go_wp2
        go_loopg [9, 97] p.length (fun g bt i wr => ∃ (k : Nat) (bb : Bool), i = .int .i64 k ∧ k ≤ p.length ∧ g = p.length - k ∧ bt = .bool bb ∧ Hid (Ext w5 wr ∧ (btwP p x k bb)))
        case atStart => exact ⟨0, _, rfl, by omega, rfl, rfl, Ext.refl _, HI.out⟩
        case round => 
          obtain ⟨k, bb, rfl, hk, hg, rfl, H⟩ := hrel
          have HG := Lib.hid hg
          clear hg g0 g9 gb c1 c2
          by_cases hlt : k < p.length
          · obtain ⟨b4, off4, s, hA4, hs, hbs4, c0, c1, c2, c3⟩ := rd_seg HR.out (etr HB5.out H.out.1) hlt
            injection hA4 with hA4
            injection hA4 with hA41 hA42
            subst hA41 hA42
            have HT := Lib.hid (any_take hs x)
            have hso := segOk_of HVP.out hs
            have s1 : -9223372036854775808 ≤ s.to_ - 1 := by obtain ⟨_, _, _, _⟩ := hso; omega
            clear hs hso
            have key : ∃ b2 : Bool, Hid (btwP p x (k + 1) b2) ∧ (bb = true ∧ b2 = true ∨ (bb = false ∧ (s.from_ == x) = b2)) := by
              refine ⟨bb || (s.from_ == x), ?_, ?_⟩
              · show _ ↔ _
                rw [Bool.or_eq_true, show (bb = true ↔ _) from H.out.2, HT.out, beq_iff_eq]
                constructor
                · rintro ((h | h | h) | h)
                  · exact .inl h
                  · exact .inr (.inl h)
                  · exact .inr (.inr (.inl h))
                  · exact .inr (.inr (.inr h))
                · rintro (h | h | h | h)
                  · exact .inl (.inl h)
                  · exact .inl (.inr (.inl h))
                  · exact .inl (.inr (.inr h))
                  · exact .inr h
              · cases bb
                · exact .inr ⟨rfl, rfl⟩
                · exact .inl ⟨rfl, rfl⟩
            obtain ⟨b2, HN, hb⟩ := key
            rcases hb with ⟨rfl, rfl⟩ | ⟨rfl, hb⟩
            all_goals go_wp2
            all_goals go_loopg [118] 4 (fun g i wj => ∃ j : Nat, i = .int .i64 j ∧ j ≤ 4 ∧ g = 4 - j ∧ Hid (Ext w5 wj ∧ ∃ L4 : List Int, L4.length = 4 ∧ CellsAt wj (wr.heap.size + 1) (L4.map (Value.int .i64))))
            all_goals first
              | (case atStart => exact ⟨0, rfl, by omega, rfl, eal (eal H.out.1 _) _, [_, _, _, _], rfl, CellsAt.new (by simp)⟩)
              | skip
            all_goals
              obtain ⟨j, rfl, hj, hg2, H2⟩ := hrel
              have HG2 := Lib.hid hg2
              clear hg2 c0 c1 c2 c3
              by_cases hlt2 : j < 4
              · obtain ⟨L4, hl4, hc4⟩ := H2.out.2
                obtain ⟨yv, hyv⟩ : ∃ y, L4[j]? = some y := ⟨_, List.getElem?_eq_getElem (by omega)⟩
                have cy := hc4.2 j (.int .i64 yv) (by simp [hyv])
                have zy := hc4.1
                have HC4 := Lib.hid hc4
                have HL4 := Lib.hid hl4
                clear hyv hc4 hl4
                have HRp := Lib.hid (HR.out.keep (etr HB5.out H2.out.1))
                have HRq := Lib.hid (HR5.out.keep H2.out.1)
                rcases HF1.out yv with ⟨k1, k2⟩ | ⟨s1, u1, k1, k2, k3, k4⟩
                · have K1 := Lib.hid k1
                  have K2 := Lib.hid k2
                  clear k1 k2
                  go_wp2_with fail
                  refine (to_after (at_no _ p cap yv wr HM.out HRp.out K1.out)).mono ?_
                  rintro e w' ⟨y1, rfl, rfl⟩
                  go_wp2_with fail
                  refine (to_after (at_no A5 (joinL a q) cap5 yv _ HM5.out ((HRq.out.keep y1.is).keep (eal (Ext.refl _) _)) K2.out)).mono ?_
                  rintro e w' ⟨y2, rfl, rfl⟩
                  have zb : y1.val.heap.size < y2.val.heap.size := by have := y2.is.size; simp at this; omega
                  go_wp2
                  go_roundg (4 - (j + 1))
                  case measure => have := HG2.out; omega
                  case rel => exact ⟨j + 1, by go_num, by omega, rfl, eal (etr (eal (etr H2.out.1 y1.is) _) y2.is) _, L4, HL4.out, ((((HC4.out.low y1.is).alloc _).low y2.is).alloc _)⟩
                · have K1 := Lib.hid k1
                  have K2 := Lib.hid k2
                  have t1 : (s1.grade != u1.grade) = false := by rw [k3]; simp
                  have t2 : (s1.speed != u1.speed) = false := by rw [k4]; simp
                  clear k1 k2 k3 k4
                  go_wp2_with fail
                  refine (to_after (at_is _ p cap yv s1 wr HM.out HRp.out K1.out)).mono ?_
                  rintro e w' ⟨y1, rfl, rfl⟩
                  go_wp2_with fail
                  refine (to_after (at_is A5 (joinL a q) cap5 yv u1 _ HM5.out ((HRq.out.keep y1.is).keep (eal (Ext.refl _) _)) K2.out)).mono ?_
                  rintro e w' ⟨y2, rfl, rfl⟩
                  have zb : y1.val.heap.size < y2.val.heap.size := by have := y2.is.size; simp at this; omega
                  go_wp2
                  go_roundg (4 - (j + 1))
                  case measure => have := HG2.out; omega
                  case rel => exact ⟨j + 1, by go_num, by omega, rfl, eal (etr (eal (etr H2.out.1 y1.is) _) y2.is) _, L4, HL4.out, ((((HC4.out.low y1.is).alloc _).low y2.is).alloc _)⟩
              · go_wp2
                go_roundg (p.length - (k + 1))
                case measure => have := HG.out; omega
                case rel => exact ⟨k + 1, _, by go_num, by omega, rfl, rfl, H2.out.1, HN.out⟩
          · have hb : bb = true ↔ _ := H.out.2
            rw [List.take_of_length_le (by omega)] at hb
            rcases HF2.out with ⟨k1, k2⟩ | ⟨k1, k2⟩
            · have := hb.2 k1
              subst this
              have HS : Hid (sameL p (joinL a q) = true) := sameL_true.2 k2.symm
              clear hb k1 k2
              go_wp2_with fail
              refine (to_after (same_any _ A5 p (joinL a q) cap cap5 _ HM.out HM5.out (HR.out.keep (etr HB5.out H.out.1)) (HR5.out.keep H.out.1))).mono ?_
              rintro e w' ⟨y8, rfl, rfl⟩
              rw [HS.out]
              go_wp2_with fail
              refine (in_after y8 (alive_any _)).mono ?_
              rintro e w' ⟨y9, rfl, rfl⟩
              go_wp2_with fail
              go_ret
              exact ⟨rfl, etr (etr HB5.out H.out.1) y9.is⟩
            · have : bb = false := by
                cases bb
                · rfl
                · exact absurd (hb.1 rfl) k1
              subst this
              have t1 : (((joinL a q).length : Int) == (p.length : Int) + 1) = true := by rw [beq_iff_eq]; omega
              clear hb k1 k2
              go_wp2_with (go_at_call 8; refine (to_after (alive_any _)).mono ?_; rintro e w' ⟨y9, rfl, rfl⟩)
              go_ret
              exact ⟨rfl, etr (etr HB5.out H.out.1) y9.is⟩
      · have HI : Hid (btwP p x 0 false) := by
          show _ ↔ _
          rw [decide_eq_false_iff_not] at c1 c2
          rw [HEH.out, HEL.out]; simp; omega
        go_wp2
        go_loopg [9, 97] p.length (fun g bt i wr => ∃ (k : Nat) (bb : Bool), i = .int .i64 k ∧ k ≤ p.length ∧ g = p.length - k ∧ bt = .bool bb ∧ Hid (Ext w5 wr ∧ (btwP p x k bb)))
        case atStart => exact ⟨0, _, rfl, by omega, rfl, rfl, Ext.refl _, HI.out⟩
        case round => 
          obtain ⟨k, bb, rfl, hk, hg, rfl, H⟩ := hrel
          have HG := Lib.hid hg
          clear hg g0 g9 gb c1 c2
          by_cases hlt : k < p.length
          · obtain ⟨b4, off4, s, hA4, hs, hbs4, c0, c1, c2, c3⟩ := rd_seg HR.out (etr HB5.out H.out.1) hlt
            injection hA4 with hA4
            injection hA4 with hA41 hA42
            subst hA41 hA42
            have HT := Lib.hid (any_take hs x)
            have hso := segOk_of HVP.out hs
            have s1 : -9223372036854775808 ≤ s.to_ - 1 := by obtain ⟨_, _, _, _⟩ := hso; omega
            clear hs hso
            have key : ∃ b2 : Bool, Hid (btwP p x (k + 1) b2) ∧ (bb = true ∧ b2 = true ∨ (bb = false ∧ (s.from_ == x) = b2)) := by
              refine ⟨bb || (s.from_ == x), ?_, ?_⟩
              · show _ ↔ _
                rw [Bool.or_eq_true, show (bb = true ↔ _) from H.out.2, HT.out, beq_iff_eq]
                constructor
                · rintro ((h | h | h) | h)
                  · exact .inl h
                  · exact .inr (.inl h)
                  · exact .inr (.inr (.inl h))
                  · exact .inr (.inr (.inr h))
                · rintro (h | h | h | h)
                  · exact .inl (.inl h)
                  · exact .inl (.inr (.inl h))
                  · exact .inl (.inr (.inr h))
                  · exact .inr h
              · cases bb
                · exact .inr ⟨rfl, rfl⟩
                · exact .inl ⟨rfl, rfl⟩
            obtain ⟨b2, HN, hb⟩ := key
            rcases hb with ⟨rfl, rfl⟩ | ⟨rfl, hb⟩
            all_goals go_wp2
            all_goals go_loopg [118] 4 (fun g i wj => ∃ j : Nat, i = .int .i64 j ∧ j ≤ 4 ∧ g = 4 - j ∧ Hid (Ext w5 wj ∧ ∃ L4 : List Int, L4.length = 4 ∧ CellsAt wj (wr.heap.size + 1) (L4.map (Value.int .i64))))
            all_goals first
              | (case atStart => exact ⟨0, rfl, by omega, rfl, eal (eal H.out.1 _) _, [_, _, _, _], rfl, CellsAt.new (by simp)⟩)
              | skip
            all_goals
              obtain ⟨j, rfl, hj, hg2, H2⟩ := hrel
              have HG2 := Lib.hid hg2
              clear hg2 c0 c1 c2 c3
              by_cases hlt2 : j < 4
              · obtain ⟨L4, hl4, hc4⟩ := H2.out.2
                obtain ⟨yv, hyv⟩ : ∃ y, L4[j]? = some y := ⟨_, List.getElem?_eq_getElem (by omega)⟩
                have cy := hc4.2 j (.int .i64 yv) (by simp [hyv])
                have zy := hc4.1
                have HC4 := Lib.hid hc4
                have HL4 := Lib.hid hl4
                clear hyv hc4 hl4
                have HRp := Lib.hid (HR.out.keep (etr HB5.out H2.out.1))
                have HRq := Lib.hid (HR5.out.keep H2.out.1)
                rcases HF1.out yv with ⟨k1, k2⟩ | ⟨s1, u1, k1, k2, k3, k4⟩
                · have K1 := Lib.hid k1
                  have K2 := Lib.hid k2
                  clear k1 k2
                  go_wp2_with fail
                  refine (to_after (at_no _ p cap yv wr HM.out HRp.out K1.out)).mono ?_
                  rintro e w' ⟨y1, rfl, rfl⟩
                  go_wp2_with fail
                  refine (to_after (at_no A5 (joinL a q) cap5 yv _ HM5.out ((HRq.out.keep y1.is).keep (eal (Ext.refl _) _)) K2.out)).mono ?_
                  rintro e w' ⟨y2, rfl, rfl⟩
                  have zb : y1.val.heap.size < y2.val.heap.size := by have := y2.is.size; simp at this; omega
                  go_wp2
                  go_roundg (4 - (j + 1))
                  case measure => have := HG2.out; omega
                  case rel => exact ⟨j + 1, by go_num, by omega, rfl, eal (etr (eal (etr H2.out.1 y1.is) _) y2.is) _, L4, HL4.out, ((((HC4.out.low y1.is).alloc _).low y2.is).alloc _)⟩
                · have K1 := Lib.hid k1
                  have K2 := Lib.hid k2
                  have t1 : (s1.grade != u1.grade) = false := by rw [k3]; simp
                  have t2 : (s1.speed != u1.speed) = false := by rw [k4]; simp
                  clear k1 k2 k3 k4
                  go_wp2_with fail
                  refine (to_after (at_is _ p cap yv s1 wr HM.out HRp.out K1.out)).mono ?_
                  rintro e w' ⟨y1, rfl, rfl⟩
                  go_wp2_with fail
                  refine (to_after (at_is A5 (joinL a q) cap5 yv u1 _ HM5.out ((HRq.out.keep y1.is).keep (eal (Ext.refl _) _)) K2.out)).mono ?_
                  rintro e w' ⟨y2, rfl, rfl⟩
                  have zb : y1.val.heap.size < y2.val.heap.size := by have := y2.is.size; simp at this; omega
                  go_wp2
                  go_roundg (4 - (j + 1))
                  case measure => have := HG2.out; omega
                  case rel => exact ⟨j + 1, by go_num, by omega, rfl, eal (etr (eal (etr H2.out.1 y1.is) _) y2.is) _, L4, HL4.out, ((((HC4.out.low y1.is).alloc _).low y2.is).alloc _)⟩
              · go_wp2
                go_roundg (p.length - (k + 1))
                case measure => have := HG.out; omega
                case rel => exact ⟨k + 1, _, by go_num, by omega, rfl, rfl, H2.out.1, HN.out⟩
          · have hb : bb = true ↔ _ := H.out.2
            rw [List.take_of_length_le (by omega)] at hb
            rcases HF2.out with ⟨k1, k2⟩ | ⟨k1, k2⟩
            · have := hb.2 k1
              subst this
              have HS : Hid (sameL p (joinL a q) = true) := sameL_true.2 k2.symm
              clear hb k1 k2
              go_wp2_with fail
              refine (to_after (same_any _ A5 p (joinL a q) cap cap5 _ HM.out HM5.out (HR.out.keep (etr HB5.out H.out.1)) (HR5.out.keep H.out.1))).mono ?_
              rintro e w' ⟨y8, rfl, rfl⟩
              rw [HS.out]
              go_wp2_with fail
              refine (in_after y8 (alive_any _)).mono ?_
              rintro e w' ⟨y9, rfl, rfl⟩
              go_wp2_with fail
              go_ret
              exact ⟨rfl, etr (etr HB5.out H.out.1) y9.is⟩
            · have : bb = false := by
                cases bb
                · rfl
                · exact absurd (hb.1 rfl) k1
              subst this
              have t1 : (((joinL a q).length : Int) == (p.length : Int) + 1) = true := by rw [beq_iff_eq]; omega
              clear hb k1 k2
              go_wp2_with (go_at_call 8; refine (to_after (alive_any _)).mono ?_; rintro e w' ⟨y9, rfl, rfl⟩)
              go_ret
              exact ⟨rfl, etr (etr HB5.out H.out.1) y9.is⟩
    · obtain ⟨b1, b2, b3⟩ := HF.out.big he
      have t1 : (((a.length : Int) + (q.length : Int)) == (p.length : Int) + 1) = true := by rw [beq_iff_eq]; omega
      have t2 : ((p.length : Int) == 128) = true := by rw [beq_iff_eq]; omega
      rw [b1]
      clear b1 b2 b3 he
      go_wp2_with (go_at_call 8; refine (to_after (alive_any _)).mono ?_; rintro e w' ⟨y9, rfl, rfl⟩)
      go_ret
      exact ⟨rfl, etr HB5.out y9.is⟩
  · have key : (300 < p.length) ∨ (p.length ≤ 300 ∧ validB p = false) ∨ (p.length ≤ 300 ∧ validB p = true ∧ ((p.length : Int) == 0) = true) := by
      rw [beq_iff_eq]
      cases hv : validB p
      · simp only [and_true, Bool.false_eq_true, false_and, and_false, or_false]; omega
      · simp only [hv, true_and, Bool.true_eq_false, and_false, false_or] at hall ⊢
        omega
    clear hall
    rcases key with d1 | ⟨d1, d2⟩ | ⟨d1, d2, d3⟩
    · go_enter Try.func7, Try.ntmps7
      go_wp2_with (go_at_call 8; refine (to_after (alive_any _)).mono ?_; rintro e w' ⟨y, rfl, rfl⟩)
      go_ret
      exact ⟨rfl, y.is⟩
    all_goals
      go_enter Try.func7, Try.ntmps7
      go_wp2_with (first
        | (go_at_call 11; refine (to_after (valid_any A p cap _ HM.out HR.out)).mono ?_; rintro e w' ⟨y0, rfl, rfl⟩)
        | (go_at_call 8; refine (in_after y0 (alive_any _)).mono ?_; rintro e w' ⟨y, rfl, rfl⟩))
      go_ret
      exact ⟨rfl, y.is⟩
end Go.Proofs.Ytoodehilgogomaa
