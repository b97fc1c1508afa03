/- Walks of chapter 34's laws: fits, the examples. -/
import Derived.Test.YthkknagicdanfaaWSup3
import Derived.Deep.Cut
set_option linter.unusedVariables false
set_option linter.unusedSimpArgs false
namespace Go.Proofs.Ythkknagicdanfaa
open Go.ChangeShapes Go.WideShapes Go.ChangeAt Go.RowKit
open Sg

def okC (x : Int) : Bool := decide (-1073741824 ≤ x) && decide (x ≤ 1073741824)
theorem okC_iff {x : Int} : okC x = true ↔ -1073741824 ≤ x ∧ x ≤ 1073741824 := by simp [okC]
def fitsB (T : Tr) (p : List Sgm) (E : Es) (en : Int) : Bool := okC en && (okC E.min && (okC E.max && (decide (chkE T = 0) && (decide (p.length ≤ 300) && (decide (0 ≤ E.speed) && decide (E.speed ≤ 1073741824))))))
structure Fits (T : Tr) (p : List Sgm) (E : Es) (en : Int) : Prop where
  tr : TrOk T
  len : p.length ≤ 300
  en : -1073741824 ≤ en ∧ en ≤ 1073741824
  min : -1073741824 ≤ E.min ∧ E.min ≤ 1073741824
  max : -1073741824 ≤ E.max ∧ E.max ≤ 1073741824
  spd : 0 ≤ E.speed ∧ E.speed ≤ 1073741824
theorem fits_of {T : Tr} {p : List Sgm} {E : Es} {en : Int} (h : fitsB T p E en = true) : Fits T p E en := by
  simp only [fitsB, Bool.and_eq_true, decide_eq_true_eq, okC_iff] at h
  obtain ⟨h1, h2, h3, h4, h5, h6, h7⟩ := h
  exact ⟨chkE_ok h4, h5, h1, h2, h3, ⟨h6, h7⟩⟩
theorem Fits.sup {T : Tr} {p : List Sgm} {E : Es} {en : Int} (h : Fits T p E en) : SupB T E en :=
  ⟨by have := h.min; omega, by have := h.max; omega, by have := h.spd; omega, by have := h.en; omega, by have := h.tr.accel; omega, by have := h.tr.len; omega⟩
theorem rdi_of {w : World} {b : Nat} {xs : List Int} (h : CellsAt w b (xs.map (Value.int .i64))) : RdI w (some ⟨b, 0, none⟩) xs := fun _ =>
  ⟨b, 0, rfl, h.1, fun k hk => by
    rw [Nat.zero_add]
    refine h.2 k _ ?_
    rw [List.getElem?_map, List.getElem?_eq_getElem hk]
    simp [List.getD_eq_getElem?_getD, hk]⟩
theorem okC_key {x : Int} (h : okC x = false) : decide (x < -1073741824) = true ∨ (decide (x < -1073741824) = false ∧ decide (1073741824 < x) = true) := by
  have h' : ¬ (-1073741824 ≤ x ∧ x ≤ 1073741824) := by rw [← okC_iff, h]; simp
  by_cases h1 : x < -1073741824
  · exact .inl (decide_eq_true h1)
  · exact .inr ⟨decide_eq_false h1, decide_eq_true (by omega)⟩
theorem okC_yes {x : Int} (h : okC x = true) : decide (x < -1073741824) = false ∧ decide (1073741824 < x) = false := by
  rw [okC_iff] at h
  exact ⟨decide_eq_false (by omega), decide_eq_false (by omega)⟩
/-- Which of the three coordinates is out of range first. -/
def fitX (E : Es) (en : Int) : List Int := [en, E.min, E.max]
theorem fits_bad {T : Tr} {p : List Sgm} {E : Es} {en : Int} {k : Nat} {x : Int} (h : (fitX E en)[k]? = some x) (hx : okC x = false) : fitsB T p E en = false := by
  match k, h with
  | 0, h => cases h; unfold fitsB; rw [hx]; rfl
  | 1, h => cases h; unfold fitsB; rw [hx]; cases okC en <;> rfl
  | 2, h => cases h; unfold fitsB; rw [hx]; cases okC en <;> cases okC E.min <;> rfl
  | k + 3, h => simp [fitX] at h
theorem fits_rest {T : Tr} {p : List Sgm} {E : Es} {en : Int} (h : ∀ (k : Nat) x, (fitX E en)[k]? = some x → okC x = true) :
    fitsB T p E en = (decide (chkE T = 0) && (decide (p.length ≤ 300) && (decide (0 ≤ E.speed) && decide (E.speed ≤ 1073741824)))) := by
  unfold fitsB
  rw [h 0 en rfl, h 1 E.min rfl, h 2 E.max rfl]
  rfl
theorem rest_key (T : Tr) (n : Nat) (s : Int) : ∃ b, (decide (chkE T = 0) && (decide (n ≤ 300) && (decide (0 ≤ s) && decide (s ≤ 1073741824)))) = b ∧
    ((b = false ∧ ((chkE T == 0) = false ∨ ((chkE T == 0) = true ∧ decide ((n : Int) ≤ 300) = false) ∨ ((chkE T == 0) = true ∧ decide ((n : Int) ≤ 300) = true ∧ decide (0 ≤ s) = false))) ∨
     ((chkE T == 0) = true ∧ decide ((n : Int) ≤ 300) = true ∧ decide (0 ≤ s) = true ∧ b = decide (s ≤ 1073741824))) := by
  refine ⟨_, rfl, ?_⟩
  have e1 : (chkE T == 0) = decide (chkE T = 0) := rfl
  have e2 : decide ((n : Int) ≤ 300) = decide (n ≤ 300) := by rw [decide_eq_decide]; omega
  rw [e1, e2]
  cases decide (chkE T = 0) <;> cases decide (n ≤ 300) <;> cases decide (0 ≤ s) <;> simp
set_option maxHeartbeats 8000000 in
theorem fit_any (T : Tr) (E : Es) (sq en : Int) (A LA : Option Addr) (p : List Sgm) (cap ln lc : Nat) (w : World) (hs : T.name.size ≤ maxLen) :
    Calls Try.prog 8 #[.agg #[.int .i64 T.id, .string T.name, .int .i64 T.len, .int .i64 T.speed, .int .i64 T.accel, .int .i64 T.service, .int .i64 T.emergency, .int .i64 T.delay, .int .i64 T.cons, .int .i64 T.rate], .agg #[.int .i64 sq, .int .i64 en, .slice A p.length cap, .slice LA ln lc], .agg #[.int .i64 E.min, .int .i64 E.max, .int .i64 E.speed]] w fun e w' => e = .returned (.bool (fitsB T p E en)) ∧ Below w.heap.size w w' := by
  obtain ⟨w1, hw⟩ : ∃ w1, w1 = ((w.alloc (.cells ([.int .i64 T.id, .string T.name, .int .i64 T.len, .int .i64 T.speed, .int .i64 T.accel, .int .i64 T.service, .int .i64 T.emergency, .int .i64 T.delay, .int .i64 T.cons, .int .i64 T.rate]).toArray 23)).alloc (.cells #[.int .i64 sq, .int .i64 en, .slice A p.length cap, .slice LA ln lc] 27)).alloc (.cells ([.int .i64 E.min, .int .i64 E.max, .int .i64 E.speed]).toArray 29) := ⟨_, rfl⟩
  have HE0 : Hid (Ext w w1) := by rw [hw]; exact eal (eal (eal (Ext.refl w) _) _) _
  have HCT : Hid (CellsAt w1 w.heap.size ([.int .i64 T.id, .string T.name, .int .i64 T.len, .int .i64 T.speed, .int .i64 T.accel, .int .i64 T.service, .int .i64 T.emergency, .int .i64 T.delay, .int .i64 T.cons, .int .i64 T.rate])) := by rw [hw]; exact ((CellsAt.new (w := w) (cs := ([.int .i64 T.id, .string T.name, .int .i64 T.len, .int .i64 T.speed, .int .i64 T.accel, .int .i64 T.service, .int .i64 T.emergency, .int .i64 T.delay, .int .i64 T.cons, .int .i64 T.rate]).toArray) (t := 23) rfl).alloc _).alloc _
  have HCA : Hid (CellsAt w1 (w.heap.size + 1) [.int .i64 sq, .int .i64 en, .slice A p.length cap, .slice LA ln lc]) := by rw [hw]; exact (CellsAt.new (w := w.alloc (.cells ([.int .i64 T.id, .string T.name, .int .i64 T.len, .int .i64 T.speed, .int .i64 T.accel, .int .i64 T.service, .int .i64 T.emergency, .int .i64 T.delay, .int .i64 T.cons, .int .i64 T.rate]).toArray 23)) (cs := #[.int .i64 sq, .int .i64 en, .slice A p.length cap, .slice LA ln lc]) (t := 27) (b := w.heap.size + 1) (by simp)).alloc _
  have HCE : Hid (CellsAt w1 (w.heap.size + 1 + 1) ([.int .i64 E.min, .int .i64 E.max, .int .i64 E.speed])) := by rw [hw]; exact CellsAt.new (by simp)
  go_enter Try.func8, Try.ntmps8
  go_upto_region 1 with (fail)
  simp only [List.toArray] at hw
  rw [← hw]
  clear hw
  have a1 := HCA.out.2 1 _ rfl
  have za := HCA.out.1
  have e0 := HCE.out.2 0 _ rfl
  have e1 := HCE.out.2 1 _ rfl
  have ze := HCE.out.1
  have HX := Lib.hid (rdi_of (w := w1.alloc (.cells #[.int .i64 en, .int .i64 E.min, .int .i64 E.max] 3)) (b := w1.heap.size) (xs := fitX E en) (CellsAt.new rfl))
  have HX1 := Lib.hid (eal (Ext.refl w1) (.cells #[.int .i64 en, .int .i64 E.min, .int .i64 E.max] 3))
  go_wp2_with fail
  obtain ⟨w2, hw2⟩ : ∃ w2, w2 = w1.alloc (.cells #[.int .i64 en, .int .i64 E.min, .int .i64 E.max] 3) := ⟨_, rfl⟩
  rw [← hw2] at HX HX1 ⊢
  clear hw2 a1 za e0 e1 ze
  go_loopg [17] 3 (fun g i wr => ∃ j : Nat, i = .int .i64 j ∧ j ≤ 3 ∧ g = 3 - j ∧ wr = w2 ∧ Hid (∀ (i : Nat) x, i < j → (fitX E en)[i]? = some x → okC x = true))
  case atStart => exact ⟨0, rfl, by omega, rfl, rfl, fun i x h => absurd h (by omega)⟩
  case round =>
    obtain ⟨j, rfl, hj, hg, rfl, H⟩ := hrel
    have HG := Lib.hid hg
    clear hg
    by_cases hlt : j < 3
    · obtain ⟨b, off, hA, hb, hc⟩ := HX.out (by simp [fitX])
      simp only [Option.some.injEq, Addr.mk.injEq] at hA
      obtain ⟨rfl, rfl, -⟩ := hA
      have c0 := hc j (by simpa [fitX] using hlt)
      obtain ⟨x, hx⟩ : ∃ x, (fitX E en)[j]? = some x := ⟨_, List.getElem?_eq_getElem (by simpa [fitX] using hlt)⟩
      have e : (fitX E en).getD j 0 = x := by rw [List.getD_eq_getElem?_getD, hx]; rfl
      rw [e, Nat.zero_add] at c0
      clear hc e
      cases hok : okC x
      · have HE : Hid (fitsB T p E en = false) := fits_bad hx hok
        have key := okC_key hok
        clear hx hok
        rcases key with q1 | ⟨q1, q2⟩
        all_goals
          go_wp2
          go_ret
          exact ⟨ret_bool HE.out.symm, etr HE0.out HX1.out⟩
      · have HN : Hid (∀ (i : Nat) x, i < j + 1 → (fitX E en)[i]? = some x → okC x = true) := fun i y hi hy => by
          by_cases e : i = j
          · subst e; rw [hx] at hy; cases hy; exact hok
          · exact H.out i y (by omega) hy
        obtain ⟨q1, q2⟩ := okC_yes hok
        clear hx hok
        go_wp2
        go_roundg (3 - (j + 1))
        case measure => have := HG.out; omega
        case rel => exact ⟨j + 1, by go_num, by omega, rfl, rfl, HN.out⟩
    · have HR0 : Hid (fitsB T p E en = (decide (chkE T = 0) && (decide (p.length ≤ 300) && (decide (0 ≤ E.speed) && decide (E.speed ≤ 1073741824))))) := fits_rest fun k x hk => H.out k x (by have := (List.getElem?_eq_some_iff.1 hk).1; simp [fitX] at this; omega) hk
      obtain ⟨bb, hbb, key⟩ := rest_key T p.length E.speed
      have HE : Hid (fitsB T p E en = bb) := by show _ = _; rw [HR0.out, hbb]
      clear hbb
      have HCT2 := Lib.hid (HCT.out.keep HX1.out)
      have HCA2 := Lib.hid (HCA.out.keep HX1.out)
      have HCE2 := Lib.hid (HCE.out.keep HX1.out)
      have t0 := HCT2.out.2 0 _ rfl
      have t1 := HCT2.out.2 1 _ rfl
      have t2 := HCT2.out.2 2 _ rfl
      have t3 := HCT2.out.2 3 _ rfl
      have t4 := HCT2.out.2 4 _ rfl
      have t5 := HCT2.out.2 5 _ rfl
      have t6 := HCT2.out.2 6 _ rfl
      have t7 := HCT2.out.2 7 _ rfl
      have t8 := HCT2.out.2 8 _ rfl
      have t9 := HCT2.out.2 9 _ rfl
      have zt := HCT2.out.1
      go_wp2_with fail
      refine (rcheck_any T _ hs).mono ?_
      rintro e w3 ⟨rfl, hb3⟩
      have HX3 := Lib.hid (etr (etr HE0.out HX1.out) hb3)
      have HCA3 := Lib.hid (HCA2.out.keep hb3)
      have HCE3 := Lib.hid (HCE2.out.keep hb3)
      clear hb3 t0 t1 t2 t3 t4 t5 t6 t7 t8 t9 zt
      have a2 := HCA3.out.2 2 _ rfl
      have za := HCA3.out.1
      have e2 := HCE3.out.2 2 _ rfl
      have ze := HCE3.out.1
      rcases key with ⟨rfl, q1 | ⟨q1, q2⟩ | ⟨q1, q2, q3⟩⟩ | ⟨q1, q2, q3, rfl⟩
      all_goals
        go_wp2
        go_ret
        exact ⟨ret_bool HE.out.symm, HX3.out⟩
def sT : Tr := ⟨1, ⟨#[116]⟩, 5000, 3000, 50, 50, 100, 0, 0, 0⟩
def sS : Sgm := ⟨-9000, 9000, 0, 3000⟩
set_option maxHeartbeats 4000000 in
theorem example_any (en : Int) (w : World) : Calls Try.prog 27 #[.int .i64 en] w fun e w' => ∃ B, e = .returned (.tuple #[.agg #[.int .i64 sT.id, .string sT.name, .int .i64 sT.len, .int .i64 sT.speed, .int .i64 sT.accel, .int .i64 sT.service, .int .i64 sT.emergency, .int .i64 sT.delay, .int .i64 sT.cons, .int .i64 sT.rate], .agg #[.int .i64 1, .int .i64 en, .slice B 1 1, .slice none 0 0]]) ∧ Rd w' B 4 Sgc [sS] ∧ Below w.heap.size w w' := by
  go_enter Try.func27, Try.ntmps27
  go_wp2
  refine bodyPost_ret (v := .tuple #[.agg #[.int .i64 sT.id, .string sT.name, .int .i64 sT.len, .int .i64 sT.speed, .int .i64 sT.accel, .int .i64 sT.service, .int .i64 sT.emergency, .int .i64 sT.delay, .int .i64 sT.cons, .int .i64 sT.rate], .agg #[.int .i64 1, .int .i64 en, .slice (some ⟨w.heap.size + 1 + 1, 0, none⟩) 1 1, .slice none 0 0]]) (by simp [results, Try.results27, go_sem, sT]) rfl ⟨some ⟨w.heap.size + 1 + 1, 0, none⟩, rfl, rd_cells (xs := [sS]) Sgc_len (CellsAt.new (by simp)), eal (eal (eal (Ext.refl w) _) _) _⟩
structure AlvW (w : World) (bt ba bc bd bf bg : Nat) (B1 B2 B3 B4 : Option Addr) : Prop where
  t : CellsAt w bt ([.int .i64 sT.id, .string sT.name, .int .i64 sT.len, .int .i64 sT.speed, .int .i64 sT.accel, .int .i64 sT.service, .int .i64 sT.emergency, .int .i64 sT.delay, .int .i64 sT.cons, .int .i64 sT.rate])
  a : CellsAt w ba [.int .i64 1, .int .i64 50, .slice B1 1 1, .slice none 0 0]
  c : CellsAt w bc [.int .i64 1, .int .i64 49, .slice B2 1 1, .slice none 0 0]
  d : CellsAt w bd [.int .i64 1, .int .i64 4500, .slice B3 1 1, .slice none 0 0]
  f : CellsAt w bf [.int .i64 1, .int .i64 6050, .slice B4 1 1, .slice none 0 0]
  g : CellsAt w bg [.int .i64 0, .int .i64 0, .int .i64 1000]
  r1 : Rd w B1 4 Sgc [sS]
  r2 : Rd w B2 4 Sgc [sS]
  r3 : Rd w B3 4 Sgc [sS]
  r4 : Rd w B4 4 Sgc [sS]
theorem AlvW.keep {w w' : World} {bt ba bc bd bf bg : Nat} {B1 B2 B3 B4 : Option Addr} (h : AlvW w bt ba bc bd bf bg B1 B2 B3 B4) (hb : Below w.heap.size w w') : AlvW w' bt ba bc bd bf bg B1 B2 B3 B4 :=
  ⟨h.t.keep hb, h.a.keep hb, h.c.keep hb, h.d.keep hb, h.f.keep hb, h.g.keep hb, h.r1.keep hb, h.r2.keep hb, h.r3.keep hb, h.r4.keep hb⟩
theorem s_valid : validB [sS] = true := validB_true.2 ⟨by decide, fun i hi => by
  have : i = 0 := by simp at hi; omega
  subst this
  exact ⟨by simp [sS, SegOk], .inl rfl⟩⟩
theorem s_reach {e : Es} {en : Int} (h1 : -9000 ≤ e.min) (h2 : en ≤ 9000) : reachB [sS] e en = true := reachB_true.2 ⟨s_valid, by decide, h1, h2⟩
theorem s_steep (en : Int) (h : 0 ≤ en) : steepV [sS] 0 en = 0 := by
  have : touchB 0 en sS = true := touchB_iff.2 ⟨by show (-9000 : Int) ≤ en; omega, by decide⟩
  rw [steepV, touL, if_pos s_valid, List.filter_cons, if_pos this]; rfl
theorem s_weak (en : Int) (h : 0 ≤ en) : weakV sT [sS] 0 en = 100 := by unfold weakV; rw [s_steep en h]; decide
def e0 : Es := ⟨0, 0, 0⟩
def eF : Es := ⟨0, 0, 1000⟩
theorem s_safe1 : safeB sT [sS] e0 50 = true := safeB_true.2 ⟨s_reach (by decide) (by decide), by show (0 : Int) + dstV 0 (weakV sT [sS] 0 50) 0 ≤ 50; rw [s_weak 50 (by decide)]; decide⟩
theorem s_ahead1 : aheadB sT [sS] e0 50 = true := aheadB_true.2 ⟨s_reach (by decide) (by decide), by show (0 : Int) + (0 + 50) + dstV (0 + 50) (weakV sT [sS] 0 50) 0 ≤ 50; rw [s_weak 50 (by decide)]; decide⟩
theorem s_ahead2 : aheadB sT [sS] e0 49 = false := by
  cases h : aheadB sT [sS] e0 49
  · rfl
  · obtain ⟨_, h2⟩ := aheadB_true.1 h
    have h3 : (0 : Int) + (0 + 50) + dstV (0 + 50) (weakV sT [sS] 0 49) 0 ≤ 49 := h2
    rw [s_weak 49 (by decide)] at h3
    exact absurd h3 (by decide)
theorem s_dec1 : decdV sT [sS] e0 49 0 = 2 := decd_two s_ahead2
theorem s_dec2 : decdV sT [sS] e0 50 0 = 0 := by
  rw [decd_rest s_ahead1 (by decide)]
  have := @permV_nonneg sT [sS] e0 50 (by decide)
  rw [if_neg]
  show ¬ permV sT [sS] e0 50 < 0
  omega
theorem s_safe3 : safeB sT [sS] eF 4500 = true := safeB_true.2 ⟨s_reach (by decide) (by decide), by show (0 : Int) + dstV 1000 (weakV sT [sS] 0 4500) 0 ≤ 4500; rw [s_weak 4500 (by decide)]; decide⟩
theorem s_ahead3 : aheadB sT [sS] eF 4500 = false := by
  cases h : aheadB sT [sS] eF 4500
  · rfl
  · obtain ⟨_, h2⟩ := aheadB_true.1 h
    have h3 : (0 : Int) + (1000 + 50) + dstV (1000 + 50) (weakV sT [sS] 0 4500) 0 ≤ 4500 := h2
    rw [s_weak 4500 (by decide)] at h3
    exact absurd h3 (by decide)
theorem s_ahead4 : aheadB sT [sS] eF 6050 = true := aheadB_true.2 ⟨s_reach (by decide) (by decide), by show (0 : Int) + (1000 + 50) + dstV (1000 + 50) (weakV sT [sS] 0 6050) 0 ≤ 6050; rw [s_weak 6050 (by decide)]; decide⟩
theorem s_sup (e : Es) (en : Int) (h : -2147483648 ≤ e.min ∧ e.min ≤ 2147483648) (h2 : -2147483648 ≤ e.max ∧ e.max ≤ 2147483648) (h3 : -2147483648 ≤ e.speed ∧ e.speed ≤ 2147483648) (h4 : -2147483648 ≤ en ∧ en ≤ 2147483648) : SupB sT e en :=
  ⟨h, h2, h3, h4, by decide, by decide⟩
set_option maxHeartbeats 16000000 in
set_option maxRecDepth 100000 in
theorem alive_any (w : World) : Calls Try.prog 13 #[] w fun e w' => e = .returned (.bool true) ∧ Below w.heap.size w w' := by
  go_enter Try.func13, Try.ntmps13
  go_wp2_with fail
  refine (example_any 50 _).mono ?_
  rintro e v1 ⟨B1, rfl, hr, hb⟩
  have HR1 := Lib.hid hr
  have HX := Lib.hid hb
  clear hr hb
  go_upto_region 2 with (fail)
  obtain ⟨u1, hu⟩ : ∃ u, u = (v1.alloc (.cells #[.int .i64 sT.id, .string sT.name, .int .i64 sT.len, .int .i64 sT.speed, .int .i64 sT.accel, .int .i64 sT.service, .int .i64 sT.emergency, .int .i64 sT.delay, .int .i64 sT.cons, .int .i64 sT.rate] 23)).alloc (.cells #[.int .i64 1, .int .i64 50, .slice B1 1 1, .slice none 0 0] 27) := ⟨_, rfl⟩
  have hq : Ext v1 u1 := by rw [hu]; exact eal (eal (Ext.refl _) _) _
  have HT1 : Hid (CellsAt u1 v1.heap.size ([.int .i64 sT.id, .string sT.name, .int .i64 sT.len, .int .i64 sT.speed, .int .i64 sT.accel, .int .i64 sT.service, .int .i64 sT.emergency, .int .i64 sT.delay, .int .i64 sT.cons, .int .i64 sT.rate])) := by rw [hu]; exact (CellsAt.new (b := v1.heap.size) rfl).alloc _
  have HA1 : Hid (CellsAt u1 (v1.heap.size + 1) [.int .i64 1, .int .i64 50, .slice B1 1 1, .slice none 0 0]) := by rw [hu]; exact CellsAt.new (by simp)
  replace HR1 := Lib.hid (HR1.out.keep hq)
  replace HX := Lib.hid (etr HX.out hq)
  rw [← hu]
  clear hu hq
  go_wp2_with fail
  refine (example_any 49 _).mono ?_
  rintro e v2 ⟨B2, rfl, hr, hb⟩
  replace HR1 := Lib.hid (HR1.out.keep hb)
  replace HT1 := Lib.hid (HT1.out.keep hb)
  replace HA1 := Lib.hid (HA1.out.keep hb)
  have HR2 := Lib.hid hr
  replace HX := Lib.hid (etr HX.out hb)
  clear hr hb
  go_upto_region 3 with (fail)
  obtain ⟨u2, hu⟩ : ∃ u, u = (v2.alloc (.cells #[.int .i64 sT.id, .string sT.name, .int .i64 sT.len, .int .i64 sT.speed, .int .i64 sT.accel, .int .i64 sT.service, .int .i64 sT.emergency, .int .i64 sT.delay, .int .i64 sT.cons, .int .i64 sT.rate] 23)).alloc (.cells #[.int .i64 1, .int .i64 49, .slice B2 1 1, .slice none 0 0] 27) := ⟨_, rfl⟩
  have hq : Ext v2 u2 := by rw [hu]; exact eal (eal (Ext.refl _) _) _
  have HT2 : Hid (CellsAt u2 v2.heap.size ([.int .i64 sT.id, .string sT.name, .int .i64 sT.len, .int .i64 sT.speed, .int .i64 sT.accel, .int .i64 sT.service, .int .i64 sT.emergency, .int .i64 sT.delay, .int .i64 sT.cons, .int .i64 sT.rate])) := by rw [hu]; exact (CellsAt.new (b := v2.heap.size) rfl).alloc _
  have HA2 : Hid (CellsAt u2 (v2.heap.size + 1) [.int .i64 1, .int .i64 49, .slice B2 1 1, .slice none 0 0]) := by rw [hu]; exact CellsAt.new (by simp)
  replace HR1 := Lib.hid (HR1.out.keep hq)
  replace HT1 := Lib.hid (HT1.out.keep hq)
  replace HA1 := Lib.hid (HA1.out.keep hq)
  replace HR2 := Lib.hid (HR2.out.keep hq)
  replace HX := Lib.hid (etr HX.out hq)
  rw [← hu]
  clear hu hq
  go_wp2_with fail
  refine (example_any 4500 _).mono ?_
  rintro e v3 ⟨B3, rfl, hr, hb⟩
  replace HR1 := Lib.hid (HR1.out.keep hb)
  replace HT1 := Lib.hid (HT1.out.keep hb)
  replace HA1 := Lib.hid (HA1.out.keep hb)
  replace HR2 := Lib.hid (HR2.out.keep hb)
  replace HT2 := Lib.hid (HT2.out.keep hb)
  replace HA2 := Lib.hid (HA2.out.keep hb)
  have HR3 := Lib.hid hr
  replace HX := Lib.hid (etr HX.out hb)
  clear hr hb
  go_upto_region 4 with (fail)
  obtain ⟨u3, hu⟩ : ∃ u, u = (v3.alloc (.cells #[.int .i64 sT.id, .string sT.name, .int .i64 sT.len, .int .i64 sT.speed, .int .i64 sT.accel, .int .i64 sT.service, .int .i64 sT.emergency, .int .i64 sT.delay, .int .i64 sT.cons, .int .i64 sT.rate] 23)).alloc (.cells #[.int .i64 1, .int .i64 4500, .slice B3 1 1, .slice none 0 0] 27) := ⟨_, rfl⟩
  have hq : Ext v3 u3 := by rw [hu]; exact eal (eal (Ext.refl _) _) _
  have HT3 : Hid (CellsAt u3 v3.heap.size ([.int .i64 sT.id, .string sT.name, .int .i64 sT.len, .int .i64 sT.speed, .int .i64 sT.accel, .int .i64 sT.service, .int .i64 sT.emergency, .int .i64 sT.delay, .int .i64 sT.cons, .int .i64 sT.rate])) := by rw [hu]; exact (CellsAt.new (b := v3.heap.size) rfl).alloc _
  have HA3 : Hid (CellsAt u3 (v3.heap.size + 1) [.int .i64 1, .int .i64 4500, .slice B3 1 1, .slice none 0 0]) := by rw [hu]; exact CellsAt.new (by simp)
  replace HR1 := Lib.hid (HR1.out.keep hq)
  replace HT1 := Lib.hid (HT1.out.keep hq)
  replace HA1 := Lib.hid (HA1.out.keep hq)
  replace HR2 := Lib.hid (HR2.out.keep hq)
  replace HT2 := Lib.hid (HT2.out.keep hq)
  replace HA2 := Lib.hid (HA2.out.keep hq)
  replace HR3 := Lib.hid (HR3.out.keep hq)
  replace HX := Lib.hid (etr HX.out hq)
  rw [← hu]
  clear hu hq
  go_wp2_with fail
  refine (example_any 6050 _).mono ?_
  rintro e v4 ⟨B4, rfl, hr, hb⟩
  replace HR1 := Lib.hid (HR1.out.keep hb)
  replace HT1 := Lib.hid (HT1.out.keep hb)
  replace HA1 := Lib.hid (HA1.out.keep hb)
  replace HR2 := Lib.hid (HR2.out.keep hb)
  replace HT2 := Lib.hid (HT2.out.keep hb)
  replace HA2 := Lib.hid (HA2.out.keep hb)
  replace HR3 := Lib.hid (HR3.out.keep hb)
  replace HT3 := Lib.hid (HT3.out.keep hb)
  replace HA3 := Lib.hid (HA3.out.keep hb)
  have HR4 := Lib.hid hr
  replace HX := Lib.hid (etr HX.out hb)
  clear hr hb
  go_upto_region 5 with (fail)
  obtain ⟨u4, hu⟩ : ∃ u, u = (v4.alloc (.cells #[.int .i64 sT.id, .string sT.name, .int .i64 sT.len, .int .i64 sT.speed, .int .i64 sT.accel, .int .i64 sT.service, .int .i64 sT.emergency, .int .i64 sT.delay, .int .i64 sT.cons, .int .i64 sT.rate] 23)).alloc (.cells #[.int .i64 1, .int .i64 6050, .slice B4 1 1, .slice none 0 0] 27) := ⟨_, rfl⟩
  have hq : Ext v4 u4 := by rw [hu]; exact eal (eal (Ext.refl _) _) _
  have HT4 : Hid (CellsAt u4 v4.heap.size ([.int .i64 sT.id, .string sT.name, .int .i64 sT.len, .int .i64 sT.speed, .int .i64 sT.accel, .int .i64 sT.service, .int .i64 sT.emergency, .int .i64 sT.delay, .int .i64 sT.cons, .int .i64 sT.rate])) := by rw [hu]; exact (CellsAt.new (b := v4.heap.size) rfl).alloc _
  have HA4 : Hid (CellsAt u4 (v4.heap.size + 1) [.int .i64 1, .int .i64 6050, .slice B4 1 1, .slice none 0 0]) := by rw [hu]; exact CellsAt.new (by simp)
  replace HR1 := Lib.hid (HR1.out.keep hq)
  replace HT1 := Lib.hid (HT1.out.keep hq)
  replace HA1 := Lib.hid (HA1.out.keep hq)
  replace HR2 := Lib.hid (HR2.out.keep hq)
  replace HT2 := Lib.hid (HT2.out.keep hq)
  replace HA2 := Lib.hid (HA2.out.keep hq)
  replace HR3 := Lib.hid (HR3.out.keep hq)
  replace HT3 := Lib.hid (HT3.out.keep hq)
  replace HA3 := Lib.hid (HA3.out.keep hq)
  replace HR4 := Lib.hid (HR4.out.keep hq)
  replace HX := Lib.hid (etr HX.out hq)
  rw [← hu]
  clear hu hq
  go_upto_region 6 with (fail)
  obtain ⟨u5, hu⟩ : ∃ u, u = u4.alloc (.cells #[.int .i64 0, .int .i64 0, .int .i64 1000] 29) := ⟨_, rfl⟩
  have hq : Ext u4 u5 := by rw [hu]; exact eal (Ext.refl _) _
  have HG5 : Hid (CellsAt u5 u4.heap.size [.int .i64 0, .int .i64 0, .int .i64 1000]) := by rw [hu]; exact CellsAt.new rfl
  replace HR1 := Lib.hid (HR1.out.keep hq)
  replace HT1 := Lib.hid (HT1.out.keep hq)
  replace HA1 := Lib.hid (HA1.out.keep hq)
  replace HR2 := Lib.hid (HR2.out.keep hq)
  replace HT2 := Lib.hid (HT2.out.keep hq)
  replace HA2 := Lib.hid (HA2.out.keep hq)
  replace HR3 := Lib.hid (HR3.out.keep hq)
  replace HT3 := Lib.hid (HT3.out.keep hq)
  replace HA3 := Lib.hid (HA3.out.keep hq)
  replace HR4 := Lib.hid (HR4.out.keep hq)
  replace HT4 := Lib.hid (HT4.out.keep hq)
  replace HA4 := Lib.hid (HA4.out.keep hq)
  replace HX := Lib.hid (etr HX.out hq)
  rw [← hu]
  clear hu hq
  have HA : AlvW u5 v1.heap.size (v1.heap.size + 1) (v2.heap.size + 1) (v3.heap.size + 1) (v4.heap.size + 1) u4.heap.size B1 B2 B3 B4 := ⟨HT1.out, HA1.out, HA2.out, HA3.out, HA4.out, HG5.out, HR1.out, HR2.out, HR3.out, HR4.out⟩
  replace HA := Lib.hid HA
  clear HR1 HT1 HA1 HR2 HT2 HA2 HR3 HT3 HA3 HR4 HT4 HA4 HG5
  have t0 := HA.out.t.2 0 _ rfl
  have t1 := HA.out.t.2 1 _ rfl
  have t2 := HA.out.t.2 2 _ rfl
  have t3 := HA.out.t.2 3 _ rfl
  have t4 := HA.out.t.2 4 _ rfl
  have t5 := HA.out.t.2 5 _ rfl
  have t6 := HA.out.t.2 6 _ rfl
  have t7 := HA.out.t.2 7 _ rfl
  have t8 := HA.out.t.2 8 _ rfl
  have t9 := HA.out.t.2 9 _ rfl
  have zt := HA.out.t.1
  have a0 := HA.out.a.2 0 _ rfl
  have a1 := HA.out.a.2 1 _ rfl
  have a2 := HA.out.a.2 2 _ rfl
  have a3 := HA.out.a.2 3 _ rfl
  have za := HA.out.a.1
  have c0 := HA.out.c.2 0 _ rfl
  have c1 := HA.out.c.2 1 _ rfl
  have c2 := HA.out.c.2 2 _ rfl
  have c3 := HA.out.c.2 3 _ rfl
  have zc := HA.out.c.1
  have d0 := HA.out.d.2 0 _ rfl
  have d1 := HA.out.d.2 1 _ rfl
  have d2 := HA.out.d.2 2 _ rfl
  have d3 := HA.out.d.2 3 _ rfl
  have zd := HA.out.d.1
  have f0 := HA.out.f.2 0 _ rfl
  have f1 := HA.out.f.2 1 _ rfl
  have f2 := HA.out.f.2 2 _ rfl
  have f3 := HA.out.f.2 3 _ rfl
  have zf := HA.out.f.1
  have g0 := HA.out.g.2 0 _ rfl
  have g1 := HA.out.g.2 1 _ rfl
  have g2 := HA.out.g.2 2 _ rfl
  have zg := HA.out.g.1
  go_wp2_with fail
  refine (supsafe_any sT e0 1 50 B1 none [sS] 1 0 0 _ (by decide) (s_sup _ _ (by decide) (by decide) (by decide) (by decide)) HA.out.r1).mono ?_
  rintro e x0 ⟨rfl, hb⟩
  rw [s_safe1]
  replace HA := Lib.hid (HA.out.keep hb)
  replace HX := Lib.hid (etr HX.out hb)
  clear hb
  clear t0 t1 t2 t3 t4 t5 t6 t7 t8 t9 a0 a1 a2 a3 c0 c1 c2 c3 d0 d1 d2 d3 f0 f1 f2 f3 g0 g1 g2 zt za zc zd zf zg
  have t0 := HA.out.t.2 0 _ rfl
  have t1 := HA.out.t.2 1 _ rfl
  have t2 := HA.out.t.2 2 _ rfl
  have t3 := HA.out.t.2 3 _ rfl
  have t4 := HA.out.t.2 4 _ rfl
  have t5 := HA.out.t.2 5 _ rfl
  have t6 := HA.out.t.2 6 _ rfl
  have t7 := HA.out.t.2 7 _ rfl
  have t8 := HA.out.t.2 8 _ rfl
  have t9 := HA.out.t.2 9 _ rfl
  have zt := HA.out.t.1
  have a0 := HA.out.a.2 0 _ rfl
  have a1 := HA.out.a.2 1 _ rfl
  have a2 := HA.out.a.2 2 _ rfl
  have a3 := HA.out.a.2 3 _ rfl
  have za := HA.out.a.1
  have c0 := HA.out.c.2 0 _ rfl
  have c1 := HA.out.c.2 1 _ rfl
  have c2 := HA.out.c.2 2 _ rfl
  have c3 := HA.out.c.2 3 _ rfl
  have zc := HA.out.c.1
  have d0 := HA.out.d.2 0 _ rfl
  have d1 := HA.out.d.2 1 _ rfl
  have d2 := HA.out.d.2 2 _ rfl
  have d3 := HA.out.d.2 3 _ rfl
  have zd := HA.out.d.1
  have f0 := HA.out.f.2 0 _ rfl
  have f1 := HA.out.f.2 1 _ rfl
  have f2 := HA.out.f.2 2 _ rfl
  have f3 := HA.out.f.2 3 _ rfl
  have zf := HA.out.f.1
  have g0 := HA.out.g.2 0 _ rfl
  have g1 := HA.out.g.2 1 _ rfl
  have g2 := HA.out.g.2 2 _ rfl
  have zg := HA.out.g.1
  go_wp2_with fail
  refine (supahead_any sT e0 1 50 B1 none [sS] 1 0 0 _ (by decide) (s_sup _ _ (by decide) (by decide) (by decide) (by decide)) HA.out.r1).mono ?_
  rintro e x1 ⟨rfl, hb⟩
  rw [s_ahead1]
  replace HA := Lib.hid (HA.out.keep hb)
  replace HX := Lib.hid (etr HX.out hb)
  clear hb
  clear t0 t1 t2 t3 t4 t5 t6 t7 t8 t9 a0 a1 a2 a3 c0 c1 c2 c3 d0 d1 d2 d3 f0 f1 f2 f3 g0 g1 g2 zt za zc zd zf zg
  have t0 := HA.out.t.2 0 _ rfl
  have t1 := HA.out.t.2 1 _ rfl
  have t2 := HA.out.t.2 2 _ rfl
  have t3 := HA.out.t.2 3 _ rfl
  have t4 := HA.out.t.2 4 _ rfl
  have t5 := HA.out.t.2 5 _ rfl
  have t6 := HA.out.t.2 6 _ rfl
  have t7 := HA.out.t.2 7 _ rfl
  have t8 := HA.out.t.2 8 _ rfl
  have t9 := HA.out.t.2 9 _ rfl
  have zt := HA.out.t.1
  have a0 := HA.out.a.2 0 _ rfl
  have a1 := HA.out.a.2 1 _ rfl
  have a2 := HA.out.a.2 2 _ rfl
  have a3 := HA.out.a.2 3 _ rfl
  have za := HA.out.a.1
  have c0 := HA.out.c.2 0 _ rfl
  have c1 := HA.out.c.2 1 _ rfl
  have c2 := HA.out.c.2 2 _ rfl
  have c3 := HA.out.c.2 3 _ rfl
  have zc := HA.out.c.1
  have d0 := HA.out.d.2 0 _ rfl
  have d1 := HA.out.d.2 1 _ rfl
  have d2 := HA.out.d.2 2 _ rfl
  have d3 := HA.out.d.2 3 _ rfl
  have zd := HA.out.d.1
  have f0 := HA.out.f.2 0 _ rfl
  have f1 := HA.out.f.2 1 _ rfl
  have f2 := HA.out.f.2 2 _ rfl
  have f3 := HA.out.f.2 3 _ rfl
  have zf := HA.out.f.1
  have g0 := HA.out.g.2 0 _ rfl
  have g1 := HA.out.g.2 1 _ rfl
  have g2 := HA.out.g.2 2 _ rfl
  have zg := HA.out.g.1
  go_wp2_with fail
  refine (supahead_any sT e0 1 49 B2 none [sS] 1 0 0 _ (by decide) (s_sup _ _ (by decide) (by decide) (by decide) (by decide)) HA.out.r2).mono ?_
  rintro e x2 ⟨rfl, hb⟩
  rw [s_ahead2]
  replace HA := Lib.hid (HA.out.keep hb)
  replace HX := Lib.hid (etr HX.out hb)
  clear hb
  clear t0 t1 t2 t3 t4 t5 t6 t7 t8 t9 a0 a1 a2 a3 c0 c1 c2 c3 d0 d1 d2 d3 f0 f1 f2 f3 g0 g1 g2 zt za zc zd zf zg
  have t0 := HA.out.t.2 0 _ rfl
  have t1 := HA.out.t.2 1 _ rfl
  have t2 := HA.out.t.2 2 _ rfl
  have t3 := HA.out.t.2 3 _ rfl
  have t4 := HA.out.t.2 4 _ rfl
  have t5 := HA.out.t.2 5 _ rfl
  have t6 := HA.out.t.2 6 _ rfl
  have t7 := HA.out.t.2 7 _ rfl
  have t8 := HA.out.t.2 8 _ rfl
  have t9 := HA.out.t.2 9 _ rfl
  have zt := HA.out.t.1
  have a0 := HA.out.a.2 0 _ rfl
  have a1 := HA.out.a.2 1 _ rfl
  have a2 := HA.out.a.2 2 _ rfl
  have a3 := HA.out.a.2 3 _ rfl
  have za := HA.out.a.1
  have c0 := HA.out.c.2 0 _ rfl
  have c1 := HA.out.c.2 1 _ rfl
  have c2 := HA.out.c.2 2 _ rfl
  have c3 := HA.out.c.2 3 _ rfl
  have zc := HA.out.c.1
  have d0 := HA.out.d.2 0 _ rfl
  have d1 := HA.out.d.2 1 _ rfl
  have d2 := HA.out.d.2 2 _ rfl
  have d3 := HA.out.d.2 3 _ rfl
  have zd := HA.out.d.1
  have f0 := HA.out.f.2 0 _ rfl
  have f1 := HA.out.f.2 1 _ rfl
  have f2 := HA.out.f.2 2 _ rfl
  have f3 := HA.out.f.2 3 _ rfl
  have zf := HA.out.f.1
  have g0 := HA.out.g.2 0 _ rfl
  have g1 := HA.out.g.2 1 _ rfl
  have g2 := HA.out.g.2 2 _ rfl
  have zg := HA.out.g.1
  go_wp2_with fail
  refine (sdec_any sT e0 1 49 B2 none [sS] 1 0 0 0 _ (by decide) (s_sup _ _ (by decide) (by decide) (by decide) (by decide)) HA.out.r2).mono ?_
  rintro e x3 ⟨rfl, hb⟩
  rw [s_dec1]
  replace HA := Lib.hid (HA.out.keep hb)
  replace HX := Lib.hid (etr HX.out hb)
  clear hb
  clear t0 t1 t2 t3 t4 t5 t6 t7 t8 t9 a0 a1 a2 a3 c0 c1 c2 c3 d0 d1 d2 d3 f0 f1 f2 f3 g0 g1 g2 zt za zc zd zf zg
  have t0 := HA.out.t.2 0 _ rfl
  have t1 := HA.out.t.2 1 _ rfl
  have t2 := HA.out.t.2 2 _ rfl
  have t3 := HA.out.t.2 3 _ rfl
  have t4 := HA.out.t.2 4 _ rfl
  have t5 := HA.out.t.2 5 _ rfl
  have t6 := HA.out.t.2 6 _ rfl
  have t7 := HA.out.t.2 7 _ rfl
  have t8 := HA.out.t.2 8 _ rfl
  have t9 := HA.out.t.2 9 _ rfl
  have zt := HA.out.t.1
  have a0 := HA.out.a.2 0 _ rfl
  have a1 := HA.out.a.2 1 _ rfl
  have a2 := HA.out.a.2 2 _ rfl
  have a3 := HA.out.a.2 3 _ rfl
  have za := HA.out.a.1
  have c0 := HA.out.c.2 0 _ rfl
  have c1 := HA.out.c.2 1 _ rfl
  have c2 := HA.out.c.2 2 _ rfl
  have c3 := HA.out.c.2 3 _ rfl
  have zc := HA.out.c.1
  have d0 := HA.out.d.2 0 _ rfl
  have d1 := HA.out.d.2 1 _ rfl
  have d2 := HA.out.d.2 2 _ rfl
  have d3 := HA.out.d.2 3 _ rfl
  have zd := HA.out.d.1
  have f0 := HA.out.f.2 0 _ rfl
  have f1 := HA.out.f.2 1 _ rfl
  have f2 := HA.out.f.2 2 _ rfl
  have f3 := HA.out.f.2 3 _ rfl
  have zf := HA.out.f.1
  have g0 := HA.out.g.2 0 _ rfl
  have g1 := HA.out.g.2 1 _ rfl
  have g2 := HA.out.g.2 2 _ rfl
  have zg := HA.out.g.1
  go_wp2_with fail
  refine (sdec_any sT e0 1 50 B1 none [sS] 1 0 0 0 _ (by decide) (s_sup _ _ (by decide) (by decide) (by decide) (by decide)) HA.out.r1).mono ?_
  rintro e x4 ⟨rfl, hb⟩
  rw [s_dec2]
  replace HA := Lib.hid (HA.out.keep hb)
  replace HX := Lib.hid (etr HX.out hb)
  clear hb
  clear t0 t1 t2 t3 t4 t5 t6 t7 t8 t9 a0 a1 a2 a3 c0 c1 c2 c3 d0 d1 d2 d3 f0 f1 f2 f3 g0 g1 g2 zt za zc zd zf zg
  have t0 := HA.out.t.2 0 _ rfl
  have t1 := HA.out.t.2 1 _ rfl
  have t2 := HA.out.t.2 2 _ rfl
  have t3 := HA.out.t.2 3 _ rfl
  have t4 := HA.out.t.2 4 _ rfl
  have t5 := HA.out.t.2 5 _ rfl
  have t6 := HA.out.t.2 6 _ rfl
  have t7 := HA.out.t.2 7 _ rfl
  have t8 := HA.out.t.2 8 _ rfl
  have t9 := HA.out.t.2 9 _ rfl
  have zt := HA.out.t.1
  have a0 := HA.out.a.2 0 _ rfl
  have a1 := HA.out.a.2 1 _ rfl
  have a2 := HA.out.a.2 2 _ rfl
  have a3 := HA.out.a.2 3 _ rfl
  have za := HA.out.a.1
  have c0 := HA.out.c.2 0 _ rfl
  have c1 := HA.out.c.2 1 _ rfl
  have c2 := HA.out.c.2 2 _ rfl
  have c3 := HA.out.c.2 3 _ rfl
  have zc := HA.out.c.1
  have d0 := HA.out.d.2 0 _ rfl
  have d1 := HA.out.d.2 1 _ rfl
  have d2 := HA.out.d.2 2 _ rfl
  have d3 := HA.out.d.2 3 _ rfl
  have zd := HA.out.d.1
  have f0 := HA.out.f.2 0 _ rfl
  have f1 := HA.out.f.2 1 _ rfl
  have f2 := HA.out.f.2 2 _ rfl
  have f3 := HA.out.f.2 3 _ rfl
  have zf := HA.out.f.1
  have g0 := HA.out.g.2 0 _ rfl
  have g1 := HA.out.g.2 1 _ rfl
  have g2 := HA.out.g.2 2 _ rfl
  have zg := HA.out.g.1
  go_wp2_with fail
  refine (supsafe_any sT eF 1 4500 B3 none [sS] 1 0 0 _ (by decide) (s_sup _ _ (by decide) (by decide) (by decide) (by decide)) HA.out.r3).mono ?_
  rintro e x5 ⟨rfl, hb⟩
  rw [s_safe3]
  replace HA := Lib.hid (HA.out.keep hb)
  replace HX := Lib.hid (etr HX.out hb)
  clear hb
  clear t0 t1 t2 t3 t4 t5 t6 t7 t8 t9 a0 a1 a2 a3 c0 c1 c2 c3 d0 d1 d2 d3 f0 f1 f2 f3 g0 g1 g2 zt za zc zd zf zg
  have t0 := HA.out.t.2 0 _ rfl
  have t1 := HA.out.t.2 1 _ rfl
  have t2 := HA.out.t.2 2 _ rfl
  have t3 := HA.out.t.2 3 _ rfl
  have t4 := HA.out.t.2 4 _ rfl
  have t5 := HA.out.t.2 5 _ rfl
  have t6 := HA.out.t.2 6 _ rfl
  have t7 := HA.out.t.2 7 _ rfl
  have t8 := HA.out.t.2 8 _ rfl
  have t9 := HA.out.t.2 9 _ rfl
  have zt := HA.out.t.1
  have a0 := HA.out.a.2 0 _ rfl
  have a1 := HA.out.a.2 1 _ rfl
  have a2 := HA.out.a.2 2 _ rfl
  have a3 := HA.out.a.2 3 _ rfl
  have za := HA.out.a.1
  have c0 := HA.out.c.2 0 _ rfl
  have c1 := HA.out.c.2 1 _ rfl
  have c2 := HA.out.c.2 2 _ rfl
  have c3 := HA.out.c.2 3 _ rfl
  have zc := HA.out.c.1
  have d0 := HA.out.d.2 0 _ rfl
  have d1 := HA.out.d.2 1 _ rfl
  have d2 := HA.out.d.2 2 _ rfl
  have d3 := HA.out.d.2 3 _ rfl
  have zd := HA.out.d.1
  have f0 := HA.out.f.2 0 _ rfl
  have f1 := HA.out.f.2 1 _ rfl
  have f2 := HA.out.f.2 2 _ rfl
  have f3 := HA.out.f.2 3 _ rfl
  have zf := HA.out.f.1
  have g0 := HA.out.g.2 0 _ rfl
  have g1 := HA.out.g.2 1 _ rfl
  have g2 := HA.out.g.2 2 _ rfl
  have zg := HA.out.g.1
  go_wp2_with fail
  refine (supahead_any sT eF 1 4500 B3 none [sS] 1 0 0 _ (by decide) (s_sup _ _ (by decide) (by decide) (by decide) (by decide)) HA.out.r3).mono ?_
  rintro e x6 ⟨rfl, hb⟩
  rw [s_ahead3]
  replace HA := Lib.hid (HA.out.keep hb)
  replace HX := Lib.hid (etr HX.out hb)
  clear hb
  clear t0 t1 t2 t3 t4 t5 t6 t7 t8 t9 a0 a1 a2 a3 c0 c1 c2 c3 d0 d1 d2 d3 f0 f1 f2 f3 g0 g1 g2 zt za zc zd zf zg
  have t0 := HA.out.t.2 0 _ rfl
  have t1 := HA.out.t.2 1 _ rfl
  have t2 := HA.out.t.2 2 _ rfl
  have t3 := HA.out.t.2 3 _ rfl
  have t4 := HA.out.t.2 4 _ rfl
  have t5 := HA.out.t.2 5 _ rfl
  have t6 := HA.out.t.2 6 _ rfl
  have t7 := HA.out.t.2 7 _ rfl
  have t8 := HA.out.t.2 8 _ rfl
  have t9 := HA.out.t.2 9 _ rfl
  have zt := HA.out.t.1
  have a0 := HA.out.a.2 0 _ rfl
  have a1 := HA.out.a.2 1 _ rfl
  have a2 := HA.out.a.2 2 _ rfl
  have a3 := HA.out.a.2 3 _ rfl
  have za := HA.out.a.1
  have c0 := HA.out.c.2 0 _ rfl
  have c1 := HA.out.c.2 1 _ rfl
  have c2 := HA.out.c.2 2 _ rfl
  have c3 := HA.out.c.2 3 _ rfl
  have zc := HA.out.c.1
  have d0 := HA.out.d.2 0 _ rfl
  have d1 := HA.out.d.2 1 _ rfl
  have d2 := HA.out.d.2 2 _ rfl
  have d3 := HA.out.d.2 3 _ rfl
  have zd := HA.out.d.1
  have f0 := HA.out.f.2 0 _ rfl
  have f1 := HA.out.f.2 1 _ rfl
  have f2 := HA.out.f.2 2 _ rfl
  have f3 := HA.out.f.2 3 _ rfl
  have zf := HA.out.f.1
  have g0 := HA.out.g.2 0 _ rfl
  have g1 := HA.out.g.2 1 _ rfl
  have g2 := HA.out.g.2 2 _ rfl
  have zg := HA.out.g.1
  go_wp2_with fail
  refine (supahead_any sT eF 1 6050 B4 none [sS] 1 0 0 _ (by decide) (s_sup _ _ (by decide) (by decide) (by decide) (by decide)) HA.out.r4).mono ?_
  rintro e x7 ⟨rfl, hb⟩
  rw [s_ahead4]
  replace HA := Lib.hid (HA.out.keep hb)
  replace HX := Lib.hid (etr HX.out hb)
  clear hb
  clear t0 t1 t2 t3 t4 t5 t6 t7 t8 t9 a0 a1 a2 a3 c0 c1 c2 c3 d0 d1 d2 d3 f0 f1 f2 f3 g0 g1 g2 zt za zc zd zf zg
  go_wp2
  go_ret
  exact ⟨rfl, HX.out⟩
end Go.Proofs.Ythkknagicdanfaa
