/- Walks: the library's symMerge of passed balises. Printed by gen_syme.py. -/
import Derived.Test.YticonpjkcocgeaaDoorWSymD
set_option linter.unusedVariables false
set_option linter.unusedSimpArgs false
set_option maxRecDepth 100000
namespace Go.Proofs.YticonpjkcocgeaaDoor
open Go.ChangeShapes Go.WideShapes Go.ChangeAt Go.RowKit Go.Sort
open Sg

/-- What is said of the merge. -/
def SymOk (z g cap n : Nat) : Prop := ∀ (a m b : Nat) (A X Y B : List Pas) (w : World), X.length + Y.length ≤ z → n = (A ++ (X ++ (Y ++ B))).length → a = A.length → m = a + X.length → b = m + Y.length → 0 < X.length → 0 < Y.length → SortedP X → SortedP Y → Own w g ((A ++ (X ++ (Y ++ B))).flatMap Pc) →
    Calls Tryd.prog 94 #[.slice (some ⟨g, 0, none⟩) n cap, .int .i64 a, .int .i64 m, .int .i64 b, .func (.func 36) #[] #[]] w fun e w' => e = .returned (.tuple #[]) ∧ Own w' g ((A ++ (sortP (X ++ Y) ++ B)).flatMap Pc) ∧ Below g w w'
/-- Where the search begins. -/
def LrP (mid m s b a lo r0 : Nat) : Prop := (mid < m ∧ lo = s - b ∧ r0 = mid) ∨ (m ≤ mid ∧ lo = a ∧ r0 = m)
/-- What the search leaves. -/
structure SymI (l : List Pas) (s lo r0 i j : Nat) : Prop where
  lo : i = lo ∨ ∃ u v, l[i - 1]? = some u ∧ l[s - i]? = some v ∧ befP v u = false
  hi : j = r0 ∨ ∃ u v, l[j]? = some u ∧ l[s - 1 - j]? = some v ∧ befP v u = true
theorem get_left {A X R : List Pas} {k : Nat} (h1 : A.length ≤ k) (h2 : k < A.length + X.length) : (A ++ (X ++ R))[k]? = X[k - A.length]? := by
  rw [List.getElem?_append_right h1, List.getElem?_append_left (by omega)]
theorem get_right {A X Y B : List Pas} {k : Nat} (h1 : A.length + X.length ≤ k) (h2 : k < A.length + X.length + Y.length) : (A ++ (X ++ (Y ++ B)))[k]? = Y[k - A.length - X.length]? := by
  rw [List.getElem?_append_right (by omega), List.getElem?_append_right (by omega), List.getElem?_append_left (by omega)]
/-- Both sides of the split. -/
theorem sym_cross {A X Y B : List Pas} {a m b s lo r0 i mid : Nat} (ha : a = A.length) (hm : m = a + X.length) (hb : b = m + Y.length) (hX : SortedP X) (hY : SortedP Y) (hs : s = mid + m) (hmid : mid = (a + b) / 2)
    (hlr0 : LrP mid m s b a lo r0) (h1 : lo ≤ i) (h2 : i ≤ r0) (hlm : 0 < X.length) (hly : 0 < Y.length) (h : SymI (A ++ (X ++ (Y ++ B))) s lo r0 i i) :
    (a ≤ i ∧ i ≤ m ∧ i ≤ mid ∧ m ≤ s - i ∧ s - i ≤ b) ∧ (∀ u ∈ X.take (i - a), ∀ v ∈ Y.drop (s - i - m), befP v u = false) ∧ (∀ u ∈ Y.take (s - i - m), ∀ v ∈ X.drop (i - a), befP v u = false) := by
  have hlr : (mid < m ∧ lo = s - b ∧ r0 = mid) ∨ (m ≤ mid ∧ lo = a ∧ r0 = m) := hlr0
  have hb1 : a ≤ i ∧ i ≤ m ∧ i ≤ mid ∧ m ≤ s - i ∧ s - i ≤ b := by omega
  refine ⟨hb1, fun u hu v hv => ?_, fun u hu v hv => ?_⟩
  · obtain ⟨p, hp, rfl⟩ := List.getElem_of_mem hu
    obtain ⟨q, hq, rfl⟩ := List.getElem_of_mem hv
    have hp' := hp
    have hq' := hq
    rw [List.length_take] at hp'
    rw [List.length_drop] at hq'
    rcases h.lo with e | ⟨u0, v0, g1, g2, g3⟩
    · omega
    · rw [get_left (by omega) (by omega)] at g1
      rw [get_right (by omega) (by omega)] at g2
      have k1 : X[p]? = some (X.take (i - a))[p] := by rw [List.getElem_take]; exact List.getElem?_eq_getElem (by omega)
      have k2 : Y[s - i - m + q]? = some (Y.drop (s - i - m))[q] := by rw [List.getElem_drop]; exact List.getElem?_eq_getElem (by omega)
      have o1 := hX.get (by omega) k1 g1
      have o2 := hY.get (by omega) g2 k2
      exact leP_trans (leP_trans o1 g3) o2
  · obtain ⟨q, hq, rfl⟩ := List.getElem_of_mem hu
    obtain ⟨p, hp, rfl⟩ := List.getElem_of_mem hv
    have hp' := hp
    have hq' := hq
    rw [List.length_drop] at hp'
    rw [List.length_take] at hq'
    rcases h.hi with e | ⟨u0, v0, g1, g2, g3⟩
    · omega
    · rw [get_left (by omega) (by omega)] at g1
      rw [get_right (by omega) (by omega)] at g2
      have k1 : X[i - a + p]? = some (X.drop (i - a))[p] := by rw [List.getElem_drop]; exact List.getElem?_eq_getElem (by omega)
      have k2 : Y[q]? = some (Y.take (s - i - m))[q] := by rw [List.getElem_take]; exact List.getElem?_eq_getElem (by omega)
      have o1 := hX.get (by omega) g1 k1
      have o2 := hY.get (by omega) k2 g2
      rw [befP_false] at o1 o2 ⊢
      rw [befP_true] at g3
      omega
section
set_option maxHeartbeats 64000000
/-- Both parts are more than one element. -/
theorem sym_both (z g cap n a m b : Nat) (IH : SymOk z g cap n) (A X Y B : List Pas) (w : World) (hz : X.length + Y.length ≤ z + 1) (hn : n = (A ++ (X ++ (Y ++ B))).length) (ha : a = A.length) (hm : m = a + X.length) (hb : b = m + Y.length) (hX2 : 2 ≤ X.length) (hY2 : 2 ≤ Y.length) (hX : SortedP X) (hY : SortedP Y) (hO : Own w g ((A ++ (X ++ (Y ++ B))).flatMap Pc)) (h6 : n ≤ 1000000) :
    Calls Tryd.prog 94 #[.slice (some ⟨g, 0, none⟩) n cap, .int .i64 a, .int .i64 m, .int .i64 b, .func (.func 36) #[] #[]] w fun e w' => e = .returned (.tuple #[]) ∧ Own w' g ((A ++ (sortP (X ++ Y) ++ B)).flatMap Pc) ∧ Below g w w' := by
  have HIH := Lib.hid IH
  have HO := Lib.hid hO
  have HX := Lib.hid hX
  have HY := Lib.hid hY
  have HEQ : Hid (a = A.length ∧ m = a + X.length ∧ b = m + Y.length ∧ n = A.length + X.length + Y.length + B.length ∧ 2 ≤ X.length ∧ 2 ≤ Y.length ∧ X.length + Y.length ≤ z + 1) := ⟨ha, hm, hb, by rw [hn]; simp only [List.length_append]; omega, hX2, hY2, hz⟩
  have HNN := Lib.hid hn
  have hbn : b ≤ n := by have := HEQ.out; omega
  have hmb : m < b := by omega
  have ham : a < m := by omega
  obtain ⟨d1, hd1⟩ : ∃ d, d = X.length := ⟨_, rfl⟩
  obtain ⟨d2, hd2⟩ : ∃ d, d = Y.length := ⟨_, rfl⟩
  have n1 : IntKind.i64.wrap ((m : Int) - (a : Int)) = (d1 : Int) := by rw [IntWalk.i64_in _ (by omega)]; omega
  have n2 : IntKind.i64.wrap ((b : Int) - (m : Int)) = (d2 : Int) := by rw [IntWalk.i64_in _ (by omega)]; omega
  have qd1 : (d1 == 1) = false := beq_eq_false_iff_ne.2 (by omega)
  have qd2 : (d2 == 1) = false := beq_eq_false_iff_ne.2 (by omega)
  have qe1 : ((d1 : Int) == 1) = false := beq_eq_false_iff_ne.2 (by omega)
  have qe2 : ((d2 : Int) == 1) = false := beq_eq_false_iff_ne.2 (by omega)
  obtain ⟨mid, hmid⟩ : ∃ mid, mid = (a + b) / 2 := ⟨_, rfl⟩
  have nh : ((a : Int) + (b : Int)) / 2 = (mid : Int) := by omega
  have hmb2 : a < mid ∧ mid < b := by have := HEQ.out; omega
  obtain ⟨s, hs⟩ : ∃ s, s = mid + m := ⟨_, rfl⟩
  have n3 : IntKind.i64.wrap ((mid : Int) + (m : Int)) = (s : Int) := by rw [IntWalk.i64_in _ (by omega)]; omega
  obtain ⟨p, hp⟩ : ∃ p, p = s - 1 := ⟨_, rfl⟩
  have n4 : IntKind.i64.wrap ((s : Int) - 1) = (p : Int) := by rw [IntWalk.i64_in _ (by omega)]; omega
  have HM : Hid (mid = (a + b) / 2 ∧ s = mid + m ∧ p = s - 1 ∧ s ≤ n + n) := ⟨hmid, hs, hp, by omega⟩
  have hsn : s ≤ 2000000 := by have := HM.out; omega
  clear hO hX hY hn ha hm hb hX2 hY2 hd1 hd2 IH hz hmid hs hp
  by_cases hmm : mid < m
  · have qm : decide (mid < m) = true := decide_eq_true hmm
    obtain ⟨lo, hlo⟩ : ∃ lo, lo = s - b := ⟨_, rfl⟩
    have n7 : IntKind.i64.wrap ((s : Int) - (b : Int)) = (lo : Int) := by rw [IntWalk.i64_in _ (by omega)]; have := HM.out; have := HEQ.out; omega
    have HLO : Hid (LrP mid m s b a lo mid) := .inl ⟨hmm, hlo, rfl⟩
    have hlr : lo ≤ mid := by have := HM.out; have := HEQ.out; omega
    clear hlo hmm
    go_enter Tryd.func94, Tryd.ntmps94
    go_wp2
    have HLR : Hid (s - b = lo ∨ True) := .inr trivial
    go_loopg [20, 21] (mid - lo) (fun gg x20 x21 wr => ∃ (i j : Nat), x20 = .int .i64 i ∧ x21 = .int .i64 j ∧ gg = j - i ∧ lo ≤ i ∧ i ≤ j ∧ j ≤ mid ∧ Hid (SymI (A ++ (X ++ (Y ++ B))) s lo mid i j) ∧ Hid (Ext w wr))
    case atStart => exact ⟨lo, mid, rfl, rfl, rfl, Nat.le_refl _, hlr, Nat.le_refl _, ⟨.inl rfl, .inl rfl⟩, Ext.refl _⟩
    case round =>
      obtain ⟨wi, rfl⟩ : ∃ wi : World, wi = wr := ⟨_, rfl⟩
      obtain ⟨i, j, rfl, rfl, hg, hmi, hij, hjb, E, XE⟩ := hrel
      have HG := Lib.hid hg
      clear hg
      by_cases hlt : i < j
      · have q0 : decide ((i : Int) < (j : Int)) = true := decide_eq_true (by omega)
        obtain ⟨h, hh⟩ : ∃ h, h = (i + j) / 2 := ⟨_, rfl⟩
        have hih : i ≤ h := by omega
        have hhj : h < j := by omega
        have nh : ((i : Int) + (j : Int)) / 2 = (h : Int) := by omega
        obtain ⟨q, hq⟩ : ∃ q, q = s - 1 - h := ⟨_, rfl⟩
        have hqn : q < n ∧ h < n ∧ h ≤ p ∧ q = p - h := by have := HM.out; have := HEQ.out; have hlo := HLO.out; unfold LrP at hlo; omega
        have n5 : IntKind.i64.wrap ((p : Int) - (h : Int)) = (q : Int) := by rw [IntWalk.i64_in _ (by omega)]; omega
        obtain ⟨u, hu⟩ : ∃ u, (A ++ (X ++ (Y ++ B)))[h]? = some u := ⟨_, List.getElem?_eq_getElem (by rw [← HNN.out]; exact hqn.2.1)⟩
        obtain ⟨v, hv⟩ : ∃ v, (A ++ (X ++ (Y ++ B)))[q]? = some v := ⟨_, List.getElem?_eq_getElem (by rw [← HNN.out]; exact hqn.1)⟩
        obtain ⟨gz, c0, c1⟩ := pas_cells (HO.out.keep XE.out) hu
        obtain ⟨_, e0, e1⟩ := pas_cells (HO.out.keep XE.out) hv
        obtain ⟨cv, hcv⟩ : ∃ cv, cv = cmpP v u := ⟨_, rfl⟩
        have HCV : Hid (decide (cv < 0) = befP v u) := by show _ = _; rw [hcv]; exact cmp_neg v u
        have HCM : Hid (∀ w' : World, Calls Tryd.prog 36 #[.agg #[.int .i64 v.place, .int .i64 v.id], .agg #[.int .i64 u.place, .int .i64 u.id]] w' fun e w2 => e = .returned (.int .i64 cv) ∧ Below w'.heap.size w' w2) := fun w' => by rw [hcv]; exact cmp_ext v u w'
        have HN0 : Hid (befP v u = false → SymI (A ++ (X ++ (Y ++ B))) s lo mid (h + 1) j) := fun hc => ⟨.inr ⟨u, v, by simpa using hu, by rw [show s - (h + 1) = q by omega]; exact hv, hc⟩, E.out.hi⟩
        have HN1 : Hid (befP v u = true → SymI (A ++ (X ++ (Y ++ B))) s lo mid i h) := fun hc => ⟨E.out.lo, .inr ⟨u, v, hu, by rw [← hq]; exact hv, hc⟩⟩
        have i1 : h < n := hqn.2.1
        have i2 : q < n := hqn.1
        clear hh hq hu hv hcv hqn
        cases hc : befP v u
        · have q1 : decide (cv < 0) = false := HCV.out.trans hc
          have HN := Lib.hid (HN0.out hc)
          clear hc HN0 HN1
          go_upto_region 35 with (fail)
          refine wp_region_after (by kernel_rfl) (by kernel_rfl) ?_
          repeat (first | go_big_quiet_step ((go_at_call 36; exact after_call _ (HCM.out _))))
          refine wpQuiet_nil ?_
          rintro _ ⟨y, rfl⟩
          clear c0 c1 e0 e1
          go_wp2
          go_roundg (j - (h + 1))
          case measure => have := HG.out; omega
          case rel => exact ⟨h + 1, j, by go_num, rfl, rfl, by omega, by omega, hjb, HN.out, etr XE.out y.is⟩
        · have q1 : decide (cv < 0) = true := HCV.out.trans hc
          have HN := Lib.hid (HN1.out hc)
          clear hc HN0 HN1
          go_upto_region 35 with (fail)
          refine wp_region_after (by kernel_rfl) (by kernel_rfl) ?_
          repeat (first | go_big_quiet_step ((go_at_call 36; exact after_call _ (HCM.out _))))
          refine wpQuiet_nil ?_
          rintro _ ⟨y, rfl⟩
          clear c0 c1 e0 e1
          go_wp2
          go_roundg (h - i)
          case measure => have := HG.out; omega
          case rel => exact ⟨i, h, rfl, rfl, rfl, hmi, hih, by omega, HN.out, etr XE.out y.is⟩
      · have e : i = j := by omega
        subst e
        have q0 : decide ((i : Int) < (i : Int)) = false := by simp
        have hcr := sym_cross (lo := lo) (r0 := mid) HEQ.out.1 HEQ.out.2.1 HEQ.out.2.2.1 HX.out HY.out HM.out.2.1 HM.out.1 HLO.out hmi hjb (by have := HEQ.out; omega) (by have := HEQ.out; omega) E.out
        obtain ⟨e, he⟩ : ∃ e, e = s - i := ⟨_, rfl⟩
        rw [← he] at hcr
        have n6 : IntKind.i64.wrap ((s : Int) - (i : Int)) = (e : Int) := by rw [IntWalk.i64_in _ (by omega)]; omega
        have HCR := Lib.hid hcr
        have HEE : Hid (e = s - i) := he
        obtain ⟨X1, hX1⟩ : ∃ X1, X1 = X.take (i - a) := ⟨_, rfl⟩
        obtain ⟨X2, hX2⟩ : ∃ X2, X2 = X.drop (i - a) := ⟨_, rfl⟩
        obtain ⟨Y1, hY1⟩ : ∃ Y1, Y1 = Y.take (e - m) := ⟨_, rfl⟩
        obtain ⟨Y2, hY2⟩ : ∃ Y2, Y2 = Y.drop (e - m) := ⟨_, rfl⟩
        rw [← hX1, ← hX2, ← hY1, ← hY2] at hcr
        have eX : X1 ++ X2 = X := by rw [hX1, hX2, List.take_append_drop]
        have eY : Y1 ++ Y2 = Y := by rw [hY1, hY2, List.take_append_drop]
        have sX : SortedP (X1 ++ X2) := by rw [eX]; exact HX.out
        have sY : SortedP (Y1 ++ Y2) := by rw [eY]; exact HY.out
        have HSP := Lib.hid (And.intro sX sY)
        have HL : Hid (a = A.length ∧ i = a + X1.length ∧ m = i + X2.length ∧ e = m + Y1.length ∧ b = e + Y2.length ∧ mid = a + X1.length + Y1.length ∧ e = mid + X2.length ∧ X1.length + X2.length + Y1.length + Y2.length ≤ z + 1 ∧ a < mid ∧ mid < b ∧ n = A.length + X1.length + X2.length + Y1.length + Y2.length + B.length) := by
          have h1 := HEQ.out
          have h2 := HM.out
          have l1 : X1.length = i - a := by rw [hX1, List.length_take]; omega
          have l2 : X2.length = m - i := by rw [hX2, List.length_drop]; omega
          have l3 : Y1.length = e - m := by rw [hY1, List.length_take]; omega
          have l4 : Y2.length = b - e := by rw [hY2, List.length_drop]; omega
          have h3 := hmb2
          refine ⟨h1.1, ?_, ?_, ?_, ?_, ?_, ?_, ?_, h3.1, h3.2, ?_⟩ <;> omega
        have HFIN : Hid (sortP (X1 ++ Y1) ++ sortP (X2 ++ Y2) = sortP (X ++ Y)) := by
          show _ = _
          rw [mrg_split sX sY hcr.2.1 hcr.2.2, eX, eY]
        have O1 : Hid (Own wi g ((A ++ (X1 ++ (X2 ++ (Y1 ++ (Y2 ++ B))))).flatMap Pc)) := by
          have := HO.out.keep XE.out
          rw [← eX, ← eY] at this
          show Own _ _ _
          simpa using this
        have B1 : Hid (Below g w wi) := XE.out.mono (Nat.le_of_lt HO.out.1)
        clear he hcr hX1 hX2 hY1 hY2 eX eY sX sY hlt HCR HEE
        have hle : i ≤ 1000000 ∧ e ≤ 1000000 := by have := HL.out; omega
        by_cases c1 : i < m
        · by_cases c2 : i < mid
          · have t1 : decide (i < m) = true := decide_eq_true (by have := HL.out; omega)
            have t2 : decide (m < e) = true := decide_eq_true (by have := HL.out; omega)
            have t3 : decide (i < mid) = true := decide_eq_true (by have := HL.out; omega)
            have t4 : decide (mid < e) = true := decide_eq_true (by have := HL.out; omega)
            have HC1 := Lib.hid c1
            have HC2 := Lib.hid c2
            clear c1 c2
            have HRT := Lib.hid (rot_any g cap n i m e (A ++ X1) X2 Y1 (Y2 ++ B) wi (by have := HL.out; simp only [List.length_append]; omega) (by have := HL.out; rw [List.length_append]; omega) (HL.out.2.2.1) (HL.out.2.2.2.1) (by have := HL.out; have := HC1.out; omega) (by have := HL.out; have := HC2.out; omega) (by have := O1.out; rw [← List.append_assoc] at this; exact this) h6 (.func (.func 36) #[] #[]))
            go_upto_region 41 with (go_at_call 108; refine HRT.out.mono ?_; rintro ee w2 ⟨rfl, ho, hb⟩; have O2' := Lib.hid ho; have B2 := Lib.hid (B1.out.trans hb); clear ho hb)
            have O2 : Hid (Own w2 g ((A ++ (X1 ++ (Y1 ++ (X2 ++ (Y2 ++ B))))).flatMap Pc)) := by have := O2'.out; rw [List.append_assoc] at this; exact this
            clear O2' HRT
            clear O1 B1
            by_cases c3 : a < i
            · have t5 : decide (a < i) = true := decide_eq_true c3
              have HC3 := Lib.hid c3
              clear c3
              have HS1 := Lib.hid (HIH.out a i mid A X1 Y1 (X2 ++ (Y2 ++ B)) w2 (by have := HL.out; omega) (by have := HL.out; simp only [List.length_append]; omega) HL.out.1 HL.out.2.1 (by have := HL.out; omega) (by have := HL.out; have := HC3.out; omega) (by have := HL.out; have := HC2.out; omega) HSP.out.1.left HSP.out.2.left O2.out)
              go_upto_region 43 with (go_at_call 94; refine HS1.out.mono ?_; rintro ee w3 ⟨rfl, ho, hb⟩; have O3 := Lib.hid ho; have B3 := Lib.hid (B2.out.trans hb); clear ho hb)
              clear HS1
              clear O2 B2
              by_cases c4 : e < b
              · have t6 : decide (e < b) = true := decide_eq_true c4
                have HC4 := Lib.hid c4
                clear c4
                have HS2 := Lib.hid (HIH.out mid e b (A ++ sortP (X1 ++ Y1)) X2 Y2 B w3 (by have := HL.out; omega) (by have := HL.out; simp only [List.length_append, sortP_len]; omega) (by have := HL.out; simp only [List.length_append, sortP_len]; omega) HL.out.2.2.2.2.2.2.1 HL.out.2.2.2.2.1 (by have := HL.out; have := HC1.out; omega) (by have := HL.out; have := HC4.out; omega) HSP.out.1.right HSP.out.2.right (by have := O3.out; rw [← List.append_assoc] at this; exact this))
                go_wp2_with (go_at_call 94; refine HS2.out.mono ?_; rintro ee w4 ⟨rfl, ho, hb⟩; have O4 := Lib.hid ho; have B4 := Lib.hid (B3.out.trans hb); clear ho hb)
                have O5 : Hid (Own w4 g ((A ++ (sortP (X ++ Y) ++ B)).flatMap Pc)) := by
                  have := O4.out
                  rw [List.append_assoc, ← List.append_assoc (sortP (X1 ++ Y1)), HFIN.out] at this
                  exact this
                go_end0
                exact ⟨rfl, O5.out, B4.out⟩
              · have t6 : decide (e < b) = false := decide_eq_false c4
                have HC4 := Lib.hid c4
                clear c4
                obtain ⟨w4, rfl⟩ : ∃ w4 : World, w4 = w3 := ⟨_, rfl⟩
                have O4 : Hid (Own w4 g (((A ++ sortP (X1 ++ Y1)) ++ (sortP (X2 ++ Y2) ++ B)).flatMap Pc)) := by
                  have hz : Y2 = [] := List.eq_nil_of_length_eq_zero (by have := HL.out; have := HC1.out; have := HC4.out; omega)
                  have hs : sortP (X2 ++ Y2) = X2 ++ Y2 := by rw [hz]; simp only [List.nil_append, List.append_nil]; exact sortP_id (HSP.out.1.right)
                  rw [hs]; have := O3.out; rw [List.append_assoc, List.append_assoc]; exact this
                have B4 := Lib.hid B3.out
                clear O3 B3
                go_wp2
                have O5 : Hid (Own w4 g ((A ++ (sortP (X ++ Y) ++ B)).flatMap Pc)) := by
                  have := O4.out
                  rw [List.append_assoc, ← List.append_assoc (sortP (X1 ++ Y1)), HFIN.out] at this
                  exact this
                go_end0
                exact ⟨rfl, O5.out, B4.out⟩
            · have t5 : decide (a < i) = false := decide_eq_false c3
              have HC3 := Lib.hid c3
              clear c3
              go_upto_region 43 with (fail)
              obtain ⟨w3, rfl⟩ : ∃ w3 : World, w3 = w2 := ⟨_, rfl⟩
              have O3 : Hid (Own w3 g ((A ++ (sortP (X1 ++ Y1) ++ (X2 ++ (Y2 ++ B)))).flatMap Pc)) := by
                have hz : X1 = [] := List.eq_nil_of_length_eq_zero (by have := HL.out; have := HC3.out; have := HC2.out; omega)
                have hs : sortP (X1 ++ Y1) = X1 ++ Y1 := by rw [hz]; simp only [List.nil_append, List.append_nil]; exact sortP_id (HSP.out.2.left)
                rw [hs, List.append_assoc]; exact O2.out
              have B3 := Lib.hid B2.out
              clear O2 B2
              by_cases c4 : e < b
              · have t6 : decide (e < b) = true := decide_eq_true c4
                have HC4 := Lib.hid c4
                clear c4
                have HS2 := Lib.hid (HIH.out mid e b (A ++ sortP (X1 ++ Y1)) X2 Y2 B w3 (by have := HL.out; omega) (by have := HL.out; simp only [List.length_append, sortP_len]; omega) (by have := HL.out; simp only [List.length_append, sortP_len]; omega) HL.out.2.2.2.2.2.2.1 HL.out.2.2.2.2.1 (by have := HL.out; have := HC1.out; omega) (by have := HL.out; have := HC4.out; omega) HSP.out.1.right HSP.out.2.right (by have := O3.out; rw [← List.append_assoc] at this; exact this))
                go_wp2_with (go_at_call 94; refine HS2.out.mono ?_; rintro ee w4 ⟨rfl, ho, hb⟩; have O4 := Lib.hid ho; have B4 := Lib.hid (B3.out.trans hb); clear ho hb)
                have O5 : Hid (Own w4 g ((A ++ (sortP (X ++ Y) ++ B)).flatMap Pc)) := by
                  have := O4.out
                  rw [List.append_assoc, ← List.append_assoc (sortP (X1 ++ Y1)), HFIN.out] at this
                  exact this
                go_end0
                exact ⟨rfl, O5.out, B4.out⟩
              · have t6 : decide (e < b) = false := decide_eq_false c4
                have HC4 := Lib.hid c4
                clear c4
                obtain ⟨w4, rfl⟩ : ∃ w4 : World, w4 = w3 := ⟨_, rfl⟩
                have O4 : Hid (Own w4 g (((A ++ sortP (X1 ++ Y1)) ++ (sortP (X2 ++ Y2) ++ B)).flatMap Pc)) := by
                  have hz : Y2 = [] := List.eq_nil_of_length_eq_zero (by have := HL.out; have := HC1.out; have := HC4.out; omega)
                  have hs : sortP (X2 ++ Y2) = X2 ++ Y2 := by rw [hz]; simp only [List.nil_append, List.append_nil]; exact sortP_id (HSP.out.1.right)
                  rw [hs]; have := O3.out; rw [List.append_assoc, List.append_assoc]; exact this
                have B4 := Lib.hid B3.out
                clear O3 B3
                go_wp2
                have O5 : Hid (Own w4 g ((A ++ (sortP (X ++ Y) ++ B)).flatMap Pc)) := by
                  have := O4.out
                  rw [List.append_assoc, ← List.append_assoc (sortP (X1 ++ Y1)), HFIN.out] at this
                  exact this
                go_end0
                exact ⟨rfl, O5.out, B4.out⟩
          · have t1 : decide (i < m) = true := decide_eq_true (by have := HL.out; omega)
            have t2 : decide (m < e) = false := decide_eq_false (by have := HL.out; omega)
            have t3 : decide (i < mid) = false := decide_eq_false (by have := HL.out; omega)
            have t4 : decide (mid < e) = true := decide_eq_true (by have := HL.out; omega)
            have HC1 := Lib.hid c1
            have HC2 := Lib.hid c2
            clear c1 c2
            go_upto_region 41 with (fail)
            obtain ⟨w2, rfl⟩ : ∃ w2 : World, w2 = wi := ⟨_, rfl⟩
            have O2 : Hid (Own w2 g ((A ++ (X1 ++ (Y1 ++ (X2 ++ (Y2 ++ B))))).flatMap Pc)) := by
              have hz : Y1 = [] := List.eq_nil_of_length_eq_zero (by have := HL.out; have := HC1.out; have := HC2.out; omega)
              have := O1.out
              rw [hz] at this ⊢
              show Own _ _ _
              simpa using this
            have B2 := Lib.hid B1.out
            clear O1 B1
            by_cases c3 : a < i
            · have t5 : decide (a < i) = true := decide_eq_true c3
              have HC3 := Lib.hid c3
              clear c3
              go_upto_region 43 with (fail)
              obtain ⟨w3, rfl⟩ : ∃ w3 : World, w3 = w2 := ⟨_, rfl⟩
              have O3 : Hid (Own w3 g ((A ++ (sortP (X1 ++ Y1) ++ (X2 ++ (Y2 ++ B)))).flatMap Pc)) := by
                have hz : Y1 = [] := List.eq_nil_of_length_eq_zero (by have := HL.out; have := HC3.out; have := HC2.out; omega)
                have hs : sortP (X1 ++ Y1) = X1 ++ Y1 := by rw [hz]; simp only [List.nil_append, List.append_nil]; exact sortP_id (HSP.out.1.left)
                rw [hs, List.append_assoc]; exact O2.out
              have B3 := Lib.hid B2.out
              clear O2 B2
              by_cases c4 : e < b
              · have t6 : decide (e < b) = true := decide_eq_true c4
                have HC4 := Lib.hid c4
                clear c4
                have HS2 := Lib.hid (HIH.out mid e b (A ++ sortP (X1 ++ Y1)) X2 Y2 B w3 (by have := HL.out; omega) (by have := HL.out; simp only [List.length_append, sortP_len]; omega) (by have := HL.out; simp only [List.length_append, sortP_len]; omega) HL.out.2.2.2.2.2.2.1 HL.out.2.2.2.2.1 (by have := HL.out; have := HC1.out; omega) (by have := HL.out; have := HC4.out; omega) HSP.out.1.right HSP.out.2.right (by have := O3.out; rw [← List.append_assoc] at this; exact this))
                go_wp2_with (go_at_call 94; refine HS2.out.mono ?_; rintro ee w4 ⟨rfl, ho, hb⟩; have O4 := Lib.hid ho; have B4 := Lib.hid (B3.out.trans hb); clear ho hb)
                have O5 : Hid (Own w4 g ((A ++ (sortP (X ++ Y) ++ B)).flatMap Pc)) := by
                  have := O4.out
                  rw [List.append_assoc, ← List.append_assoc (sortP (X1 ++ Y1)), HFIN.out] at this
                  exact this
                go_end0
                exact ⟨rfl, O5.out, B4.out⟩
              · have t6 : decide (e < b) = false := decide_eq_false c4
                have HC4 := Lib.hid c4
                clear c4
                obtain ⟨w4, rfl⟩ : ∃ w4 : World, w4 = w3 := ⟨_, rfl⟩
                have O4 : Hid (Own w4 g (((A ++ sortP (X1 ++ Y1)) ++ (sortP (X2 ++ Y2) ++ B)).flatMap Pc)) := by
                  have hz : Y2 = [] := List.eq_nil_of_length_eq_zero (by have := HL.out; have := HC1.out; have := HC4.out; omega)
                  have hs : sortP (X2 ++ Y2) = X2 ++ Y2 := by rw [hz]; simp only [List.nil_append, List.append_nil]; exact sortP_id (HSP.out.1.right)
                  rw [hs]; have := O3.out; rw [List.append_assoc, List.append_assoc]; exact this
                have B4 := Lib.hid B3.out
                clear O3 B3
                go_wp2
                have O5 : Hid (Own w4 g ((A ++ (sortP (X ++ Y) ++ B)).flatMap Pc)) := by
                  have := O4.out
                  rw [List.append_assoc, ← List.append_assoc (sortP (X1 ++ Y1)), HFIN.out] at this
                  exact this
                go_end0
                exact ⟨rfl, O5.out, B4.out⟩
            · have t5 : decide (a < i) = false := decide_eq_false c3
              have HC3 := Lib.hid c3
              clear c3
              go_upto_region 43 with (fail)
              obtain ⟨w3, rfl⟩ : ∃ w3 : World, w3 = w2 := ⟨_, rfl⟩
              have O3 : Hid (Own w3 g ((A ++ (sortP (X1 ++ Y1) ++ (X2 ++ (Y2 ++ B)))).flatMap Pc)) := by
                have hz : X1 = [] := List.eq_nil_of_length_eq_zero (by have := HL.out; have := HC3.out; have := HC2.out; omega)
                have hs : sortP (X1 ++ Y1) = X1 ++ Y1 := by rw [hz]; simp only [List.nil_append, List.append_nil]; exact sortP_id (HSP.out.2.left)
                rw [hs, List.append_assoc]; exact O2.out
              have B3 := Lib.hid B2.out
              clear O2 B2
              by_cases c4 : e < b
              · have t6 : decide (e < b) = true := decide_eq_true c4
                have HC4 := Lib.hid c4
                clear c4
                have HS2 := Lib.hid (HIH.out mid e b (A ++ sortP (X1 ++ Y1)) X2 Y2 B w3 (by have := HL.out; omega) (by have := HL.out; simp only [List.length_append, sortP_len]; omega) (by have := HL.out; simp only [List.length_append, sortP_len]; omega) HL.out.2.2.2.2.2.2.1 HL.out.2.2.2.2.1 (by have := HL.out; have := HC1.out; omega) (by have := HL.out; have := HC4.out; omega) HSP.out.1.right HSP.out.2.right (by have := O3.out; rw [← List.append_assoc] at this; exact this))
                go_wp2_with (go_at_call 94; refine HS2.out.mono ?_; rintro ee w4 ⟨rfl, ho, hb⟩; have O4 := Lib.hid ho; have B4 := Lib.hid (B3.out.trans hb); clear ho hb)
                have O5 : Hid (Own w4 g ((A ++ (sortP (X ++ Y) ++ B)).flatMap Pc)) := by
                  have := O4.out
                  rw [List.append_assoc, ← List.append_assoc (sortP (X1 ++ Y1)), HFIN.out] at this
                  exact this
                go_end0
                exact ⟨rfl, O5.out, B4.out⟩
              · have t6 : decide (e < b) = false := decide_eq_false c4
                have HC4 := Lib.hid c4
                clear c4
                obtain ⟨w4, rfl⟩ : ∃ w4 : World, w4 = w3 := ⟨_, rfl⟩
                have O4 : Hid (Own w4 g (((A ++ sortP (X1 ++ Y1)) ++ (sortP (X2 ++ Y2) ++ B)).flatMap Pc)) := by
                  have hz : Y2 = [] := List.eq_nil_of_length_eq_zero (by have := HL.out; have := HC1.out; have := HC4.out; omega)
                  have hs : sortP (X2 ++ Y2) = X2 ++ Y2 := by rw [hz]; simp only [List.nil_append, List.append_nil]; exact sortP_id (HSP.out.1.right)
                  rw [hs]; have := O3.out; rw [List.append_assoc, List.append_assoc]; exact this
                have B4 := Lib.hid B3.out
                clear O3 B3
                go_wp2
                have O5 : Hid (Own w4 g ((A ++ (sortP (X ++ Y) ++ B)).flatMap Pc)) := by
                  have := O4.out
                  rw [List.append_assoc, ← List.append_assoc (sortP (X1 ++ Y1)), HFIN.out] at this
                  exact this
                go_end0
                exact ⟨rfl, O5.out, B4.out⟩
        · by_cases c2 : i < mid
          · have t1 : decide (i < m) = false := decide_eq_false (by have := HL.out; omega)
            have t2 : decide (m < e) = true := decide_eq_true (by have := HL.out; omega)
            have t3 : decide (i < mid) = true := decide_eq_true (by have := HL.out; omega)
            have t4 : decide (mid < e) = false := decide_eq_false (by have := HL.out; omega)
            have HC1 := Lib.hid c1
            have HC2 := Lib.hid c2
            clear c1 c2
            go_upto_region 41 with (fail)
            obtain ⟨w2, rfl⟩ : ∃ w2 : World, w2 = wi := ⟨_, rfl⟩
            have O2 : Hid (Own w2 g ((A ++ (X1 ++ (Y1 ++ (X2 ++ (Y2 ++ B))))).flatMap Pc)) := by
              have hz : X2 = [] := List.eq_nil_of_length_eq_zero (by have := HL.out; have := HC1.out; have := HC2.out; omega)
              have := O1.out
              rw [hz] at this ⊢
              show Own _ _ _
              simpa using this
            have B2 := Lib.hid B1.out
            clear O1 B1
            by_cases c3 : a < i
            · have t5 : decide (a < i) = true := decide_eq_true c3
              have HC3 := Lib.hid c3
              clear c3
              have HS1 := Lib.hid (HIH.out a i mid A X1 Y1 (X2 ++ (Y2 ++ B)) w2 (by have := HL.out; omega) (by have := HL.out; simp only [List.length_append]; omega) HL.out.1 HL.out.2.1 (by have := HL.out; omega) (by have := HL.out; have := HC3.out; omega) (by have := HL.out; have := HC2.out; omega) HSP.out.1.left HSP.out.2.left O2.out)
              go_upto_region 43 with (go_at_call 94; refine HS1.out.mono ?_; rintro ee w3 ⟨rfl, ho, hb⟩; have O3 := Lib.hid ho; have B3 := Lib.hid (B2.out.trans hb); clear ho hb)
              clear HS1
              clear O2 B2
              by_cases c4 : e < b
              · have t6 : decide (e < b) = true := decide_eq_true c4
                have HC4 := Lib.hid c4
                clear c4
                obtain ⟨w4, rfl⟩ : ∃ w4 : World, w4 = w3 := ⟨_, rfl⟩
                have O4 : Hid (Own w4 g (((A ++ sortP (X1 ++ Y1)) ++ (sortP (X2 ++ Y2) ++ B)).flatMap Pc)) := by
                  have hz : X2 = [] := List.eq_nil_of_length_eq_zero (by have := HL.out; have := HC1.out; have := HC4.out; omega)
                  have hs : sortP (X2 ++ Y2) = X2 ++ Y2 := by rw [hz]; simp only [List.nil_append, List.append_nil]; exact sortP_id (HSP.out.2.right)
                  rw [hs]; have := O3.out; rw [List.append_assoc, List.append_assoc]; exact this
                have B4 := Lib.hid B3.out
                clear O3 B3
                go_wp2
                have O5 : Hid (Own w4 g ((A ++ (sortP (X ++ Y) ++ B)).flatMap Pc)) := by
                  have := O4.out
                  rw [List.append_assoc, ← List.append_assoc (sortP (X1 ++ Y1)), HFIN.out] at this
                  exact this
                go_end0
                exact ⟨rfl, O5.out, B4.out⟩
              · have t6 : decide (e < b) = false := decide_eq_false c4
                have HC4 := Lib.hid c4
                clear c4
                obtain ⟨w4, rfl⟩ : ∃ w4 : World, w4 = w3 := ⟨_, rfl⟩
                have O4 : Hid (Own w4 g (((A ++ sortP (X1 ++ Y1)) ++ (sortP (X2 ++ Y2) ++ B)).flatMap Pc)) := by
                  have hz : X2 = [] := List.eq_nil_of_length_eq_zero (by have := HL.out; have := HC1.out; have := HC4.out; omega)
                  have hs : sortP (X2 ++ Y2) = X2 ++ Y2 := by rw [hz]; simp only [List.nil_append, List.append_nil]; exact sortP_id (HSP.out.2.right)
                  rw [hs]; have := O3.out; rw [List.append_assoc, List.append_assoc]; exact this
                have B4 := Lib.hid B3.out
                clear O3 B3
                go_wp2
                have O5 : Hid (Own w4 g ((A ++ (sortP (X ++ Y) ++ B)).flatMap Pc)) := by
                  have := O4.out
                  rw [List.append_assoc, ← List.append_assoc (sortP (X1 ++ Y1)), HFIN.out] at this
                  exact this
                go_end0
                exact ⟨rfl, O5.out, B4.out⟩
            · have t5 : decide (a < i) = false := decide_eq_false c3
              have HC3 := Lib.hid c3
              clear c3
              go_upto_region 43 with (fail)
              obtain ⟨w3, rfl⟩ : ∃ w3 : World, w3 = w2 := ⟨_, rfl⟩
              have O3 : Hid (Own w3 g ((A ++ (sortP (X1 ++ Y1) ++ (X2 ++ (Y2 ++ B)))).flatMap Pc)) := by
                have hz : X1 = [] := List.eq_nil_of_length_eq_zero (by have := HL.out; have := HC3.out; have := HC2.out; omega)
                have hs : sortP (X1 ++ Y1) = X1 ++ Y1 := by rw [hz]; simp only [List.nil_append, List.append_nil]; exact sortP_id (HSP.out.2.left)
                rw [hs, List.append_assoc]; exact O2.out
              have B3 := Lib.hid B2.out
              clear O2 B2
              by_cases c4 : e < b
              · have t6 : decide (e < b) = true := decide_eq_true c4
                have HC4 := Lib.hid c4
                clear c4
                obtain ⟨w4, rfl⟩ : ∃ w4 : World, w4 = w3 := ⟨_, rfl⟩
                have O4 : Hid (Own w4 g (((A ++ sortP (X1 ++ Y1)) ++ (sortP (X2 ++ Y2) ++ B)).flatMap Pc)) := by
                  have hz : X2 = [] := List.eq_nil_of_length_eq_zero (by have := HL.out; have := HC1.out; have := HC4.out; omega)
                  have hs : sortP (X2 ++ Y2) = X2 ++ Y2 := by rw [hz]; simp only [List.nil_append, List.append_nil]; exact sortP_id (HSP.out.2.right)
                  rw [hs]; have := O3.out; rw [List.append_assoc, List.append_assoc]; exact this
                have B4 := Lib.hid B3.out
                clear O3 B3
                go_wp2
                have O5 : Hid (Own w4 g ((A ++ (sortP (X ++ Y) ++ B)).flatMap Pc)) := by
                  have := O4.out
                  rw [List.append_assoc, ← List.append_assoc (sortP (X1 ++ Y1)), HFIN.out] at this
                  exact this
                go_end0
                exact ⟨rfl, O5.out, B4.out⟩
              · have t6 : decide (e < b) = false := decide_eq_false c4
                have HC4 := Lib.hid c4
                clear c4
                obtain ⟨w4, rfl⟩ : ∃ w4 : World, w4 = w3 := ⟨_, rfl⟩
                have O4 : Hid (Own w4 g (((A ++ sortP (X1 ++ Y1)) ++ (sortP (X2 ++ Y2) ++ B)).flatMap Pc)) := by
                  have hz : X2 = [] := List.eq_nil_of_length_eq_zero (by have := HL.out; have := HC1.out; have := HC4.out; omega)
                  have hs : sortP (X2 ++ Y2) = X2 ++ Y2 := by rw [hz]; simp only [List.nil_append, List.append_nil]; exact sortP_id (HSP.out.2.right)
                  rw [hs]; have := O3.out; rw [List.append_assoc, List.append_assoc]; exact this
                have B4 := Lib.hid B3.out
                clear O3 B3
                go_wp2
                have O5 : Hid (Own w4 g ((A ++ (sortP (X ++ Y) ++ B)).flatMap Pc)) := by
                  have := O4.out
                  rw [List.append_assoc, ← List.append_assoc (sortP (X1 ++ Y1)), HFIN.out] at this
                  exact this
                go_end0
                exact ⟨rfl, O5.out, B4.out⟩
          · have t1 : decide (i < m) = false := decide_eq_false (by have := HL.out; omega)
            have t2 : decide (m < e) = false := decide_eq_false (by have := HL.out; omega)
            have t3 : decide (i < mid) = false := decide_eq_false (by have := HL.out; omega)
            have t4 : decide (mid < e) = false := decide_eq_false (by have := HL.out; omega)
            have HC1 := Lib.hid c1
            have HC2 := Lib.hid c2
            clear c1 c2
            go_upto_region 41 with (fail)
            obtain ⟨w2, rfl⟩ : ∃ w2 : World, w2 = wi := ⟨_, rfl⟩
            have O2 : Hid (Own w2 g ((A ++ (X1 ++ (Y1 ++ (X2 ++ (Y2 ++ B))))).flatMap Pc)) := by
              have hz : X2 = [] := List.eq_nil_of_length_eq_zero (by have := HL.out; have := HC1.out; have := HC2.out; omega)
              have := O1.out
              rw [hz] at this ⊢
              show Own _ _ _
              simpa using this
            have B2 := Lib.hid B1.out
            clear O1 B1
            by_cases c3 : a < i
            · have t5 : decide (a < i) = true := decide_eq_true c3
              have HC3 := Lib.hid c3
              clear c3
              go_upto_region 43 with (fail)
              obtain ⟨w3, rfl⟩ : ∃ w3 : World, w3 = w2 := ⟨_, rfl⟩
              have O3 : Hid (Own w3 g ((A ++ (sortP (X1 ++ Y1) ++ (X2 ++ (Y2 ++ B)))).flatMap Pc)) := by
                have hz : Y1 = [] := List.eq_nil_of_length_eq_zero (by have := HL.out; have := HC3.out; have := HC2.out; omega)
                have hs : sortP (X1 ++ Y1) = X1 ++ Y1 := by rw [hz]; simp only [List.nil_append, List.append_nil]; exact sortP_id (HSP.out.1.left)
                rw [hs, List.append_assoc]; exact O2.out
              have B3 := Lib.hid B2.out
              clear O2 B2
              by_cases c4 : e < b
              · have t6 : decide (e < b) = true := decide_eq_true c4
                have HC4 := Lib.hid c4
                clear c4
                obtain ⟨w4, rfl⟩ : ∃ w4 : World, w4 = w3 := ⟨_, rfl⟩
                have O4 : Hid (Own w4 g (((A ++ sortP (X1 ++ Y1)) ++ (sortP (X2 ++ Y2) ++ B)).flatMap Pc)) := by
                  have hz : X2 = [] := List.eq_nil_of_length_eq_zero (by have := HL.out; have := HC1.out; have := HC4.out; omega)
                  have hs : sortP (X2 ++ Y2) = X2 ++ Y2 := by rw [hz]; simp only [List.nil_append, List.append_nil]; exact sortP_id (HSP.out.2.right)
                  rw [hs]; have := O3.out; rw [List.append_assoc, List.append_assoc]; exact this
                have B4 := Lib.hid B3.out
                clear O3 B3
                go_wp2
                have O5 : Hid (Own w4 g ((A ++ (sortP (X ++ Y) ++ B)).flatMap Pc)) := by
                  have := O4.out
                  rw [List.append_assoc, ← List.append_assoc (sortP (X1 ++ Y1)), HFIN.out] at this
                  exact this
                go_end0
                exact ⟨rfl, O5.out, B4.out⟩
              · have t6 : decide (e < b) = false := decide_eq_false c4
                have HC4 := Lib.hid c4
                clear c4
                obtain ⟨w4, rfl⟩ : ∃ w4 : World, w4 = w3 := ⟨_, rfl⟩
                have O4 : Hid (Own w4 g (((A ++ sortP (X1 ++ Y1)) ++ (sortP (X2 ++ Y2) ++ B)).flatMap Pc)) := by
                  have hz : X2 = [] := List.eq_nil_of_length_eq_zero (by have := HL.out; have := HC1.out; have := HC4.out; omega)
                  have hs : sortP (X2 ++ Y2) = X2 ++ Y2 := by rw [hz]; simp only [List.nil_append, List.append_nil]; exact sortP_id (HSP.out.2.right)
                  rw [hs]; have := O3.out; rw [List.append_assoc, List.append_assoc]; exact this
                have B4 := Lib.hid B3.out
                clear O3 B3
                go_wp2
                have O5 : Hid (Own w4 g ((A ++ (sortP (X ++ Y) ++ B)).flatMap Pc)) := by
                  have := O4.out
                  rw [List.append_assoc, ← List.append_assoc (sortP (X1 ++ Y1)), HFIN.out] at this
                  exact this
                go_end0
                exact ⟨rfl, O5.out, B4.out⟩
            · have t5 : decide (a < i) = false := decide_eq_false c3
              have HC3 := Lib.hid c3
              clear c3
              go_upto_region 43 with (fail)
              obtain ⟨w3, rfl⟩ : ∃ w3 : World, w3 = w2 := ⟨_, rfl⟩
              have O3 : Hid (Own w3 g ((A ++ (sortP (X1 ++ Y1) ++ (X2 ++ (Y2 ++ B)))).flatMap Pc)) := by
                have hz : X1 = [] := List.eq_nil_of_length_eq_zero (by have := HL.out; have := HC3.out; have := HC2.out; omega)
                have hs : sortP (X1 ++ Y1) = X1 ++ Y1 := by rw [hz]; simp only [List.nil_append, List.append_nil]; exact sortP_id (HSP.out.2.left)
                rw [hs, List.append_assoc]; exact O2.out
              have B3 := Lib.hid B2.out
              clear O2 B2
              by_cases c4 : e < b
              · have t6 : decide (e < b) = true := decide_eq_true c4
                have HC4 := Lib.hid c4
                clear c4
                obtain ⟨w4, rfl⟩ : ∃ w4 : World, w4 = w3 := ⟨_, rfl⟩
                have O4 : Hid (Own w4 g (((A ++ sortP (X1 ++ Y1)) ++ (sortP (X2 ++ Y2) ++ B)).flatMap Pc)) := by
                  have hz : X2 = [] := List.eq_nil_of_length_eq_zero (by have := HL.out; have := HC1.out; have := HC4.out; omega)
                  have hs : sortP (X2 ++ Y2) = X2 ++ Y2 := by rw [hz]; simp only [List.nil_append, List.append_nil]; exact sortP_id (HSP.out.2.right)
                  rw [hs]; have := O3.out; rw [List.append_assoc, List.append_assoc]; exact this
                have B4 := Lib.hid B3.out
                clear O3 B3
                go_wp2
                have O5 : Hid (Own w4 g ((A ++ (sortP (X ++ Y) ++ B)).flatMap Pc)) := by
                  have := O4.out
                  rw [List.append_assoc, ← List.append_assoc (sortP (X1 ++ Y1)), HFIN.out] at this
                  exact this
                go_end0
                exact ⟨rfl, O5.out, B4.out⟩
              · have t6 : decide (e < b) = false := decide_eq_false c4
                have HC4 := Lib.hid c4
                clear c4
                obtain ⟨w4, rfl⟩ : ∃ w4 : World, w4 = w3 := ⟨_, rfl⟩
                have O4 : Hid (Own w4 g (((A ++ sortP (X1 ++ Y1)) ++ (sortP (X2 ++ Y2) ++ B)).flatMap Pc)) := by
                  have hz : X2 = [] := List.eq_nil_of_length_eq_zero (by have := HL.out; have := HC1.out; have := HC4.out; omega)
                  have hs : sortP (X2 ++ Y2) = X2 ++ Y2 := by rw [hz]; simp only [List.nil_append, List.append_nil]; exact sortP_id (HSP.out.2.right)
                  rw [hs]; have := O3.out; rw [List.append_assoc, List.append_assoc]; exact this
                have B4 := Lib.hid B3.out
                clear O3 B3
                go_wp2
                have O5 : Hid (Own w4 g ((A ++ (sortP (X ++ Y) ++ B)).flatMap Pc)) := by
                  have := O4.out
                  rw [List.append_assoc, ← List.append_assoc (sortP (X1 ++ Y1)), HFIN.out] at this
                  exact this
                go_end0
                exact ⟨rfl, O5.out, B4.out⟩
  · have qm : decide (mid < m) = false := decide_eq_false hmm
    have HLO : Hid (LrP mid m s b a a m) := .inr ⟨by omega, rfl, rfl⟩
    have hlr : a ≤ m := by omega
    clear hmm
    go_enter Tryd.func94, Tryd.ntmps94
    go_wp2
    have HLR : Hid (s - b = a ∨ True) := .inr trivial
    go_loopg [20, 21] (m - a) (fun gg x20 x21 wr => ∃ (i j : Nat), x20 = .int .i64 i ∧ x21 = .int .i64 j ∧ gg = j - i ∧ a ≤ i ∧ i ≤ j ∧ j ≤ m ∧ Hid (SymI (A ++ (X ++ (Y ++ B))) s a m i j) ∧ Hid (Ext w wr))
    case atStart => exact ⟨a, m, rfl, rfl, rfl, Nat.le_refl _, hlr, Nat.le_refl _, ⟨.inl rfl, .inl rfl⟩, Ext.refl _⟩
    case round =>
      obtain ⟨wi, rfl⟩ : ∃ wi : World, wi = wr := ⟨_, rfl⟩
      obtain ⟨i, j, rfl, rfl, hg, hmi, hij, hjb, E, XE⟩ := hrel
      have HG := Lib.hid hg
      clear hg
      by_cases hlt : i < j
      · have q0 : decide ((i : Int) < (j : Int)) = true := decide_eq_true (by omega)
        obtain ⟨h, hh⟩ : ∃ h, h = (i + j) / 2 := ⟨_, rfl⟩
        have hih : i ≤ h := by omega
        have hhj : h < j := by omega
        have nh : ((i : Int) + (j : Int)) / 2 = (h : Int) := by omega
        obtain ⟨q, hq⟩ : ∃ q, q = s - 1 - h := ⟨_, rfl⟩
        have hqn : q < n ∧ h < n ∧ h ≤ p ∧ q = p - h := by have := HM.out; have := HEQ.out; have hlo := HLO.out; unfold LrP at hlo; omega
        have n5 : IntKind.i64.wrap ((p : Int) - (h : Int)) = (q : Int) := by rw [IntWalk.i64_in _ (by omega)]; omega
        obtain ⟨u, hu⟩ : ∃ u, (A ++ (X ++ (Y ++ B)))[h]? = some u := ⟨_, List.getElem?_eq_getElem (by rw [← HNN.out]; exact hqn.2.1)⟩
        obtain ⟨v, hv⟩ : ∃ v, (A ++ (X ++ (Y ++ B)))[q]? = some v := ⟨_, List.getElem?_eq_getElem (by rw [← HNN.out]; exact hqn.1)⟩
        obtain ⟨gz, c0, c1⟩ := pas_cells (HO.out.keep XE.out) hu
        obtain ⟨_, e0, e1⟩ := pas_cells (HO.out.keep XE.out) hv
        obtain ⟨cv, hcv⟩ : ∃ cv, cv = cmpP v u := ⟨_, rfl⟩
        have HCV : Hid (decide (cv < 0) = befP v u) := by show _ = _; rw [hcv]; exact cmp_neg v u
        have HCM : Hid (∀ w' : World, Calls Tryd.prog 36 #[.agg #[.int .i64 v.place, .int .i64 v.id], .agg #[.int .i64 u.place, .int .i64 u.id]] w' fun e w2 => e = .returned (.int .i64 cv) ∧ Below w'.heap.size w' w2) := fun w' => by rw [hcv]; exact cmp_ext v u w'
        have HN0 : Hid (befP v u = false → SymI (A ++ (X ++ (Y ++ B))) s a m (h + 1) j) := fun hc => ⟨.inr ⟨u, v, by simpa using hu, by rw [show s - (h + 1) = q by omega]; exact hv, hc⟩, E.out.hi⟩
        have HN1 : Hid (befP v u = true → SymI (A ++ (X ++ (Y ++ B))) s a m i h) := fun hc => ⟨E.out.lo, .inr ⟨u, v, hu, by rw [← hq]; exact hv, hc⟩⟩
        have i1 : h < n := hqn.2.1
        have i2 : q < n := hqn.1
        clear hh hq hu hv hcv hqn
        cases hc : befP v u
        · have q1 : decide (cv < 0) = false := HCV.out.trans hc
          have HN := Lib.hid (HN0.out hc)
          clear hc HN0 HN1
          go_upto_region 35 with (fail)
          refine wp_region_after (by kernel_rfl) (by kernel_rfl) ?_
          repeat (first | go_big_quiet_step ((go_at_call 36; exact after_call _ (HCM.out _))))
          refine wpQuiet_nil ?_
          rintro _ ⟨y, rfl⟩
          clear c0 c1 e0 e1
          go_wp2
          go_roundg (j - (h + 1))
          case measure => have := HG.out; omega
          case rel => exact ⟨h + 1, j, by go_num, rfl, rfl, by omega, by omega, hjb, HN.out, etr XE.out y.is⟩
        · have q1 : decide (cv < 0) = true := HCV.out.trans hc
          have HN := Lib.hid (HN1.out hc)
          clear hc HN0 HN1
          go_upto_region 35 with (fail)
          refine wp_region_after (by kernel_rfl) (by kernel_rfl) ?_
          repeat (first | go_big_quiet_step ((go_at_call 36; exact after_call _ (HCM.out _))))
          refine wpQuiet_nil ?_
          rintro _ ⟨y, rfl⟩
          clear c0 c1 e0 e1
          go_wp2
          go_roundg (h - i)
          case measure => have := HG.out; omega
          case rel => exact ⟨i, h, rfl, rfl, rfl, hmi, hih, by omega, HN.out, etr XE.out y.is⟩
      · have e : i = j := by omega
        subst e
        have q0 : decide ((i : Int) < (i : Int)) = false := by simp
        have hcr := sym_cross (lo := a) (r0 := m) HEQ.out.1 HEQ.out.2.1 HEQ.out.2.2.1 HX.out HY.out HM.out.2.1 HM.out.1 HLO.out hmi hjb (by have := HEQ.out; omega) (by have := HEQ.out; omega) E.out
        obtain ⟨e, he⟩ : ∃ e, e = s - i := ⟨_, rfl⟩
        rw [← he] at hcr
        have n6 : IntKind.i64.wrap ((s : Int) - (i : Int)) = (e : Int) := by rw [IntWalk.i64_in _ (by omega)]; omega
        have HCR := Lib.hid hcr
        have HEE : Hid (e = s - i) := he
        obtain ⟨X1, hX1⟩ : ∃ X1, X1 = X.take (i - a) := ⟨_, rfl⟩
        obtain ⟨X2, hX2⟩ : ∃ X2, X2 = X.drop (i - a) := ⟨_, rfl⟩
        obtain ⟨Y1, hY1⟩ : ∃ Y1, Y1 = Y.take (e - m) := ⟨_, rfl⟩
        obtain ⟨Y2, hY2⟩ : ∃ Y2, Y2 = Y.drop (e - m) := ⟨_, rfl⟩
        rw [← hX1, ← hX2, ← hY1, ← hY2] at hcr
        have eX : X1 ++ X2 = X := by rw [hX1, hX2, List.take_append_drop]
        have eY : Y1 ++ Y2 = Y := by rw [hY1, hY2, List.take_append_drop]
        have sX : SortedP (X1 ++ X2) := by rw [eX]; exact HX.out
        have sY : SortedP (Y1 ++ Y2) := by rw [eY]; exact HY.out
        have HSP := Lib.hid (And.intro sX sY)
        have HL : Hid (a = A.length ∧ i = a + X1.length ∧ m = i + X2.length ∧ e = m + Y1.length ∧ b = e + Y2.length ∧ mid = a + X1.length + Y1.length ∧ e = mid + X2.length ∧ X1.length + X2.length + Y1.length + Y2.length ≤ z + 1 ∧ a < mid ∧ mid < b ∧ n = A.length + X1.length + X2.length + Y1.length + Y2.length + B.length) := by
          have h1 := HEQ.out
          have h2 := HM.out
          have l1 : X1.length = i - a := by rw [hX1, List.length_take]; omega
          have l2 : X2.length = m - i := by rw [hX2, List.length_drop]; omega
          have l3 : Y1.length = e - m := by rw [hY1, List.length_take]; omega
          have l4 : Y2.length = b - e := by rw [hY2, List.length_drop]; omega
          have h3 := hmb2
          refine ⟨h1.1, ?_, ?_, ?_, ?_, ?_, ?_, ?_, h3.1, h3.2, ?_⟩ <;> omega
        have HFIN : Hid (sortP (X1 ++ Y1) ++ sortP (X2 ++ Y2) = sortP (X ++ Y)) := by
          show _ = _
          rw [mrg_split sX sY hcr.2.1 hcr.2.2, eX, eY]
        have O1 : Hid (Own wi g ((A ++ (X1 ++ (X2 ++ (Y1 ++ (Y2 ++ B))))).flatMap Pc)) := by
          have := HO.out.keep XE.out
          rw [← eX, ← eY] at this
          show Own _ _ _
          simpa using this
        have B1 : Hid (Below g w wi) := XE.out.mono (Nat.le_of_lt HO.out.1)
        clear he hcr hX1 hX2 hY1 hY2 eX eY sX sY hlt HCR HEE
        have hle : i ≤ 1000000 ∧ e ≤ 1000000 := by have := HL.out; omega
        by_cases c1 : i < m
        · by_cases c2 : i < mid
          · have t1 : decide (i < m) = true := decide_eq_true (by have := HL.out; omega)
            have t2 : decide (m < e) = true := decide_eq_true (by have := HL.out; omega)
            have t3 : decide (i < mid) = true := decide_eq_true (by have := HL.out; omega)
            have t4 : decide (mid < e) = true := decide_eq_true (by have := HL.out; omega)
            have HC1 := Lib.hid c1
            have HC2 := Lib.hid c2
            clear c1 c2
            have HRT := Lib.hid (rot_any g cap n i m e (A ++ X1) X2 Y1 (Y2 ++ B) wi (by have := HL.out; simp only [List.length_append]; omega) (by have := HL.out; rw [List.length_append]; omega) (HL.out.2.2.1) (HL.out.2.2.2.1) (by have := HL.out; have := HC1.out; omega) (by have := HL.out; have := HC2.out; omega) (by have := O1.out; rw [← List.append_assoc] at this; exact this) h6 (.func (.func 36) #[] #[]))
            go_upto_region 41 with (go_at_call 108; refine HRT.out.mono ?_; rintro ee w2 ⟨rfl, ho, hb⟩; have O2' := Lib.hid ho; have B2 := Lib.hid (B1.out.trans hb); clear ho hb)
            have O2 : Hid (Own w2 g ((A ++ (X1 ++ (Y1 ++ (X2 ++ (Y2 ++ B))))).flatMap Pc)) := by have := O2'.out; rw [List.append_assoc] at this; exact this
            clear O2' HRT
            clear O1 B1
            by_cases c3 : a < i
            · have t5 : decide (a < i) = true := decide_eq_true c3
              have HC3 := Lib.hid c3
              clear c3
              have HS1 := Lib.hid (HIH.out a i mid A X1 Y1 (X2 ++ (Y2 ++ B)) w2 (by have := HL.out; omega) (by have := HL.out; simp only [List.length_append]; omega) HL.out.1 HL.out.2.1 (by have := HL.out; omega) (by have := HL.out; have := HC3.out; omega) (by have := HL.out; have := HC2.out; omega) HSP.out.1.left HSP.out.2.left O2.out)
              go_upto_region 43 with (go_at_call 94; refine HS1.out.mono ?_; rintro ee w3 ⟨rfl, ho, hb⟩; have O3 := Lib.hid ho; have B3 := Lib.hid (B2.out.trans hb); clear ho hb)
              clear HS1
              clear O2 B2
              by_cases c4 : e < b
              · have t6 : decide (e < b) = true := decide_eq_true c4
                have HC4 := Lib.hid c4
                clear c4
                have HS2 := Lib.hid (HIH.out mid e b (A ++ sortP (X1 ++ Y1)) X2 Y2 B w3 (by have := HL.out; omega) (by have := HL.out; simp only [List.length_append, sortP_len]; omega) (by have := HL.out; simp only [List.length_append, sortP_len]; omega) HL.out.2.2.2.2.2.2.1 HL.out.2.2.2.2.1 (by have := HL.out; have := HC1.out; omega) (by have := HL.out; have := HC4.out; omega) HSP.out.1.right HSP.out.2.right (by have := O3.out; rw [← List.append_assoc] at this; exact this))
                go_wp2_with (go_at_call 94; refine HS2.out.mono ?_; rintro ee w4 ⟨rfl, ho, hb⟩; have O4 := Lib.hid ho; have B4 := Lib.hid (B3.out.trans hb); clear ho hb)
                have O5 : Hid (Own w4 g ((A ++ (sortP (X ++ Y) ++ B)).flatMap Pc)) := by
                  have := O4.out
                  rw [List.append_assoc, ← List.append_assoc (sortP (X1 ++ Y1)), HFIN.out] at this
                  exact this
                go_end0
                exact ⟨rfl, O5.out, B4.out⟩
              · have t6 : decide (e < b) = false := decide_eq_false c4
                have HC4 := Lib.hid c4
                clear c4
                obtain ⟨w4, rfl⟩ : ∃ w4 : World, w4 = w3 := ⟨_, rfl⟩
                have O4 : Hid (Own w4 g (((A ++ sortP (X1 ++ Y1)) ++ (sortP (X2 ++ Y2) ++ B)).flatMap Pc)) := by
                  have hz : Y2 = [] := List.eq_nil_of_length_eq_zero (by have := HL.out; have := HC1.out; have := HC4.out; omega)
                  have hs : sortP (X2 ++ Y2) = X2 ++ Y2 := by rw [hz]; simp only [List.nil_append, List.append_nil]; exact sortP_id (HSP.out.1.right)
                  rw [hs]; have := O3.out; rw [List.append_assoc, List.append_assoc]; exact this
                have B4 := Lib.hid B3.out
                clear O3 B3
                go_wp2
                have O5 : Hid (Own w4 g ((A ++ (sortP (X ++ Y) ++ B)).flatMap Pc)) := by
                  have := O4.out
                  rw [List.append_assoc, ← List.append_assoc (sortP (X1 ++ Y1)), HFIN.out] at this
                  exact this
                go_end0
                exact ⟨rfl, O5.out, B4.out⟩
            · have t5 : decide (a < i) = false := decide_eq_false c3
              have HC3 := Lib.hid c3
              clear c3
              go_upto_region 43 with (fail)
              obtain ⟨w3, rfl⟩ : ∃ w3 : World, w3 = w2 := ⟨_, rfl⟩
              have O3 : Hid (Own w3 g ((A ++ (sortP (X1 ++ Y1) ++ (X2 ++ (Y2 ++ B)))).flatMap Pc)) := by
                have hz : X1 = [] := List.eq_nil_of_length_eq_zero (by have := HL.out; have := HC3.out; have := HC2.out; omega)
                have hs : sortP (X1 ++ Y1) = X1 ++ Y1 := by rw [hz]; simp only [List.nil_append, List.append_nil]; exact sortP_id (HSP.out.2.left)
                rw [hs, List.append_assoc]; exact O2.out
              have B3 := Lib.hid B2.out
              clear O2 B2
              by_cases c4 : e < b
              · have t6 : decide (e < b) = true := decide_eq_true c4
                have HC4 := Lib.hid c4
                clear c4
                have HS2 := Lib.hid (HIH.out mid e b (A ++ sortP (X1 ++ Y1)) X2 Y2 B w3 (by have := HL.out; omega) (by have := HL.out; simp only [List.length_append, sortP_len]; omega) (by have := HL.out; simp only [List.length_append, sortP_len]; omega) HL.out.2.2.2.2.2.2.1 HL.out.2.2.2.2.1 (by have := HL.out; have := HC1.out; omega) (by have := HL.out; have := HC4.out; omega) HSP.out.1.right HSP.out.2.right (by have := O3.out; rw [← List.append_assoc] at this; exact this))
                go_wp2_with (go_at_call 94; refine HS2.out.mono ?_; rintro ee w4 ⟨rfl, ho, hb⟩; have O4 := Lib.hid ho; have B4 := Lib.hid (B3.out.trans hb); clear ho hb)
                have O5 : Hid (Own w4 g ((A ++ (sortP (X ++ Y) ++ B)).flatMap Pc)) := by
                  have := O4.out
                  rw [List.append_assoc, ← List.append_assoc (sortP (X1 ++ Y1)), HFIN.out] at this
                  exact this
                go_end0
                exact ⟨rfl, O5.out, B4.out⟩
              · have t6 : decide (e < b) = false := decide_eq_false c4
                have HC4 := Lib.hid c4
                clear c4
                obtain ⟨w4, rfl⟩ : ∃ w4 : World, w4 = w3 := ⟨_, rfl⟩
                have O4 : Hid (Own w4 g (((A ++ sortP (X1 ++ Y1)) ++ (sortP (X2 ++ Y2) ++ B)).flatMap Pc)) := by
                  have hz : Y2 = [] := List.eq_nil_of_length_eq_zero (by have := HL.out; have := HC1.out; have := HC4.out; omega)
                  have hs : sortP (X2 ++ Y2) = X2 ++ Y2 := by rw [hz]; simp only [List.nil_append, List.append_nil]; exact sortP_id (HSP.out.1.right)
                  rw [hs]; have := O3.out; rw [List.append_assoc, List.append_assoc]; exact this
                have B4 := Lib.hid B3.out
                clear O3 B3
                go_wp2
                have O5 : Hid (Own w4 g ((A ++ (sortP (X ++ Y) ++ B)).flatMap Pc)) := by
                  have := O4.out
                  rw [List.append_assoc, ← List.append_assoc (sortP (X1 ++ Y1)), HFIN.out] at this
                  exact this
                go_end0
                exact ⟨rfl, O5.out, B4.out⟩
          · have t1 : decide (i < m) = true := decide_eq_true (by have := HL.out; omega)
            have t2 : decide (m < e) = false := decide_eq_false (by have := HL.out; omega)
            have t3 : decide (i < mid) = false := decide_eq_false (by have := HL.out; omega)
            have t4 : decide (mid < e) = true := decide_eq_true (by have := HL.out; omega)
            have HC1 := Lib.hid c1
            have HC2 := Lib.hid c2
            clear c1 c2
            go_upto_region 41 with (fail)
            obtain ⟨w2, rfl⟩ : ∃ w2 : World, w2 = wi := ⟨_, rfl⟩
            have O2 : Hid (Own w2 g ((A ++ (X1 ++ (Y1 ++ (X2 ++ (Y2 ++ B))))).flatMap Pc)) := by
              have hz : Y1 = [] := List.eq_nil_of_length_eq_zero (by have := HL.out; have := HC1.out; have := HC2.out; omega)
              have := O1.out
              rw [hz] at this ⊢
              show Own _ _ _
              simpa using this
            have B2 := Lib.hid B1.out
            clear O1 B1
            by_cases c3 : a < i
            · have t5 : decide (a < i) = true := decide_eq_true c3
              have HC3 := Lib.hid c3
              clear c3
              go_upto_region 43 with (fail)
              obtain ⟨w3, rfl⟩ : ∃ w3 : World, w3 = w2 := ⟨_, rfl⟩
              have O3 : Hid (Own w3 g ((A ++ (sortP (X1 ++ Y1) ++ (X2 ++ (Y2 ++ B)))).flatMap Pc)) := by
                have hz : Y1 = [] := List.eq_nil_of_length_eq_zero (by have := HL.out; have := HC3.out; have := HC2.out; omega)
                have hs : sortP (X1 ++ Y1) = X1 ++ Y1 := by rw [hz]; simp only [List.nil_append, List.append_nil]; exact sortP_id (HSP.out.1.left)
                rw [hs, List.append_assoc]; exact O2.out
              have B3 := Lib.hid B2.out
              clear O2 B2
              by_cases c4 : e < b
              · have t6 : decide (e < b) = true := decide_eq_true c4
                have HC4 := Lib.hid c4
                clear c4
                have HS2 := Lib.hid (HIH.out mid e b (A ++ sortP (X1 ++ Y1)) X2 Y2 B w3 (by have := HL.out; omega) (by have := HL.out; simp only [List.length_append, sortP_len]; omega) (by have := HL.out; simp only [List.length_append, sortP_len]; omega) HL.out.2.2.2.2.2.2.1 HL.out.2.2.2.2.1 (by have := HL.out; have := HC1.out; omega) (by have := HL.out; have := HC4.out; omega) HSP.out.1.right HSP.out.2.right (by have := O3.out; rw [← List.append_assoc] at this; exact this))
                go_wp2_with (go_at_call 94; refine HS2.out.mono ?_; rintro ee w4 ⟨rfl, ho, hb⟩; have O4 := Lib.hid ho; have B4 := Lib.hid (B3.out.trans hb); clear ho hb)
                have O5 : Hid (Own w4 g ((A ++ (sortP (X ++ Y) ++ B)).flatMap Pc)) := by
                  have := O4.out
                  rw [List.append_assoc, ← List.append_assoc (sortP (X1 ++ Y1)), HFIN.out] at this
                  exact this
                go_end0
                exact ⟨rfl, O5.out, B4.out⟩
              · have t6 : decide (e < b) = false := decide_eq_false c4
                have HC4 := Lib.hid c4
                clear c4
                obtain ⟨w4, rfl⟩ : ∃ w4 : World, w4 = w3 := ⟨_, rfl⟩
                have O4 : Hid (Own w4 g (((A ++ sortP (X1 ++ Y1)) ++ (sortP (X2 ++ Y2) ++ B)).flatMap Pc)) := by
                  have hz : Y2 = [] := List.eq_nil_of_length_eq_zero (by have := HL.out; have := HC1.out; have := HC4.out; omega)
                  have hs : sortP (X2 ++ Y2) = X2 ++ Y2 := by rw [hz]; simp only [List.nil_append, List.append_nil]; exact sortP_id (HSP.out.1.right)
                  rw [hs]; have := O3.out; rw [List.append_assoc, List.append_assoc]; exact this
                have B4 := Lib.hid B3.out
                clear O3 B3
                go_wp2
                have O5 : Hid (Own w4 g ((A ++ (sortP (X ++ Y) ++ B)).flatMap Pc)) := by
                  have := O4.out
                  rw [List.append_assoc, ← List.append_assoc (sortP (X1 ++ Y1)), HFIN.out] at this
                  exact this
                go_end0
                exact ⟨rfl, O5.out, B4.out⟩
            · have t5 : decide (a < i) = false := decide_eq_false c3
              have HC3 := Lib.hid c3
              clear c3
              go_upto_region 43 with (fail)
              obtain ⟨w3, rfl⟩ : ∃ w3 : World, w3 = w2 := ⟨_, rfl⟩
              have O3 : Hid (Own w3 g ((A ++ (sortP (X1 ++ Y1) ++ (X2 ++ (Y2 ++ B)))).flatMap Pc)) := by
                have hz : X1 = [] := List.eq_nil_of_length_eq_zero (by have := HL.out; have := HC3.out; have := HC2.out; omega)
                have hs : sortP (X1 ++ Y1) = X1 ++ Y1 := by rw [hz]; simp only [List.nil_append, List.append_nil]; exact sortP_id (HSP.out.2.left)
                rw [hs, List.append_assoc]; exact O2.out
              have B3 := Lib.hid B2.out
              clear O2 B2
              by_cases c4 : e < b
              · have t6 : decide (e < b) = true := decide_eq_true c4
                have HC4 := Lib.hid c4
                clear c4
                have HS2 := Lib.hid (HIH.out mid e b (A ++ sortP (X1 ++ Y1)) X2 Y2 B w3 (by have := HL.out; omega) (by have := HL.out; simp only [List.length_append, sortP_len]; omega) (by have := HL.out; simp only [List.length_append, sortP_len]; omega) HL.out.2.2.2.2.2.2.1 HL.out.2.2.2.2.1 (by have := HL.out; have := HC1.out; omega) (by have := HL.out; have := HC4.out; omega) HSP.out.1.right HSP.out.2.right (by have := O3.out; rw [← List.append_assoc] at this; exact this))
                go_wp2_with (go_at_call 94; refine HS2.out.mono ?_; rintro ee w4 ⟨rfl, ho, hb⟩; have O4 := Lib.hid ho; have B4 := Lib.hid (B3.out.trans hb); clear ho hb)
                have O5 : Hid (Own w4 g ((A ++ (sortP (X ++ Y) ++ B)).flatMap Pc)) := by
                  have := O4.out
                  rw [List.append_assoc, ← List.append_assoc (sortP (X1 ++ Y1)), HFIN.out] at this
                  exact this
                go_end0
                exact ⟨rfl, O5.out, B4.out⟩
              · have t6 : decide (e < b) = false := decide_eq_false c4
                have HC4 := Lib.hid c4
                clear c4
                obtain ⟨w4, rfl⟩ : ∃ w4 : World, w4 = w3 := ⟨_, rfl⟩
                have O4 : Hid (Own w4 g (((A ++ sortP (X1 ++ Y1)) ++ (sortP (X2 ++ Y2) ++ B)).flatMap Pc)) := by
                  have hz : Y2 = [] := List.eq_nil_of_length_eq_zero (by have := HL.out; have := HC1.out; have := HC4.out; omega)
                  have hs : sortP (X2 ++ Y2) = X2 ++ Y2 := by rw [hz]; simp only [List.nil_append, List.append_nil]; exact sortP_id (HSP.out.1.right)
                  rw [hs]; have := O3.out; rw [List.append_assoc, List.append_assoc]; exact this
                have B4 := Lib.hid B3.out
                clear O3 B3
                go_wp2
                have O5 : Hid (Own w4 g ((A ++ (sortP (X ++ Y) ++ B)).flatMap Pc)) := by
                  have := O4.out
                  rw [List.append_assoc, ← List.append_assoc (sortP (X1 ++ Y1)), HFIN.out] at this
                  exact this
                go_end0
                exact ⟨rfl, O5.out, B4.out⟩
        · by_cases c2 : i < mid
          · have t1 : decide (i < m) = false := decide_eq_false (by have := HL.out; omega)
            have t2 : decide (m < e) = true := decide_eq_true (by have := HL.out; omega)
            have t3 : decide (i < mid) = true := decide_eq_true (by have := HL.out; omega)
            have t4 : decide (mid < e) = false := decide_eq_false (by have := HL.out; omega)
            have HC1 := Lib.hid c1
            have HC2 := Lib.hid c2
            clear c1 c2
            go_upto_region 41 with (fail)
            obtain ⟨w2, rfl⟩ : ∃ w2 : World, w2 = wi := ⟨_, rfl⟩
            have O2 : Hid (Own w2 g ((A ++ (X1 ++ (Y1 ++ (X2 ++ (Y2 ++ B))))).flatMap Pc)) := by
              have hz : X2 = [] := List.eq_nil_of_length_eq_zero (by have := HL.out; have := HC1.out; have := HC2.out; omega)
              have := O1.out
              rw [hz] at this ⊢
              show Own _ _ _
              simpa using this
            have B2 := Lib.hid B1.out
            clear O1 B1
            by_cases c3 : a < i
            · have t5 : decide (a < i) = true := decide_eq_true c3
              have HC3 := Lib.hid c3
              clear c3
              have HS1 := Lib.hid (HIH.out a i mid A X1 Y1 (X2 ++ (Y2 ++ B)) w2 (by have := HL.out; omega) (by have := HL.out; simp only [List.length_append]; omega) HL.out.1 HL.out.2.1 (by have := HL.out; omega) (by have := HL.out; have := HC3.out; omega) (by have := HL.out; have := HC2.out; omega) HSP.out.1.left HSP.out.2.left O2.out)
              go_upto_region 43 with (go_at_call 94; refine HS1.out.mono ?_; rintro ee w3 ⟨rfl, ho, hb⟩; have O3 := Lib.hid ho; have B3 := Lib.hid (B2.out.trans hb); clear ho hb)
              clear HS1
              clear O2 B2
              by_cases c4 : e < b
              · have t6 : decide (e < b) = true := decide_eq_true c4
                have HC4 := Lib.hid c4
                clear c4
                obtain ⟨w4, rfl⟩ : ∃ w4 : World, w4 = w3 := ⟨_, rfl⟩
                have O4 : Hid (Own w4 g (((A ++ sortP (X1 ++ Y1)) ++ (sortP (X2 ++ Y2) ++ B)).flatMap Pc)) := by
                  have hz : X2 = [] := List.eq_nil_of_length_eq_zero (by have := HL.out; have := HC1.out; have := HC4.out; omega)
                  have hs : sortP (X2 ++ Y2) = X2 ++ Y2 := by rw [hz]; simp only [List.nil_append, List.append_nil]; exact sortP_id (HSP.out.2.right)
                  rw [hs]; have := O3.out; rw [List.append_assoc, List.append_assoc]; exact this
                have B4 := Lib.hid B3.out
                clear O3 B3
                go_wp2
                have O5 : Hid (Own w4 g ((A ++ (sortP (X ++ Y) ++ B)).flatMap Pc)) := by
                  have := O4.out
                  rw [List.append_assoc, ← List.append_assoc (sortP (X1 ++ Y1)), HFIN.out] at this
                  exact this
                go_end0
                exact ⟨rfl, O5.out, B4.out⟩
              · have t6 : decide (e < b) = false := decide_eq_false c4
                have HC4 := Lib.hid c4
                clear c4
                obtain ⟨w4, rfl⟩ : ∃ w4 : World, w4 = w3 := ⟨_, rfl⟩
                have O4 : Hid (Own w4 g (((A ++ sortP (X1 ++ Y1)) ++ (sortP (X2 ++ Y2) ++ B)).flatMap Pc)) := by
                  have hz : X2 = [] := List.eq_nil_of_length_eq_zero (by have := HL.out; have := HC1.out; have := HC4.out; omega)
                  have hs : sortP (X2 ++ Y2) = X2 ++ Y2 := by rw [hz]; simp only [List.nil_append, List.append_nil]; exact sortP_id (HSP.out.2.right)
                  rw [hs]; have := O3.out; rw [List.append_assoc, List.append_assoc]; exact this
                have B4 := Lib.hid B3.out
                clear O3 B3
                go_wp2
                have O5 : Hid (Own w4 g ((A ++ (sortP (X ++ Y) ++ B)).flatMap Pc)) := by
                  have := O4.out
                  rw [List.append_assoc, ← List.append_assoc (sortP (X1 ++ Y1)), HFIN.out] at this
                  exact this
                go_end0
                exact ⟨rfl, O5.out, B4.out⟩
            · have t5 : decide (a < i) = false := decide_eq_false c3
              have HC3 := Lib.hid c3
              clear c3
              go_upto_region 43 with (fail)
              obtain ⟨w3, rfl⟩ : ∃ w3 : World, w3 = w2 := ⟨_, rfl⟩
              have O3 : Hid (Own w3 g ((A ++ (sortP (X1 ++ Y1) ++ (X2 ++ (Y2 ++ B)))).flatMap Pc)) := by
                have hz : X1 = [] := List.eq_nil_of_length_eq_zero (by have := HL.out; have := HC3.out; have := HC2.out; omega)
                have hs : sortP (X1 ++ Y1) = X1 ++ Y1 := by rw [hz]; simp only [List.nil_append, List.append_nil]; exact sortP_id (HSP.out.2.left)
                rw [hs, List.append_assoc]; exact O2.out
              have B3 := Lib.hid B2.out
              clear O2 B2
              by_cases c4 : e < b
              · have t6 : decide (e < b) = true := decide_eq_true c4
                have HC4 := Lib.hid c4
                clear c4
                obtain ⟨w4, rfl⟩ : ∃ w4 : World, w4 = w3 := ⟨_, rfl⟩
                have O4 : Hid (Own w4 g (((A ++ sortP (X1 ++ Y1)) ++ (sortP (X2 ++ Y2) ++ B)).flatMap Pc)) := by
                  have hz : X2 = [] := List.eq_nil_of_length_eq_zero (by have := HL.out; have := HC1.out; have := HC4.out; omega)
                  have hs : sortP (X2 ++ Y2) = X2 ++ Y2 := by rw [hz]; simp only [List.nil_append, List.append_nil]; exact sortP_id (HSP.out.2.right)
                  rw [hs]; have := O3.out; rw [List.append_assoc, List.append_assoc]; exact this
                have B4 := Lib.hid B3.out
                clear O3 B3
                go_wp2
                have O5 : Hid (Own w4 g ((A ++ (sortP (X ++ Y) ++ B)).flatMap Pc)) := by
                  have := O4.out
                  rw [List.append_assoc, ← List.append_assoc (sortP (X1 ++ Y1)), HFIN.out] at this
                  exact this
                go_end0
                exact ⟨rfl, O5.out, B4.out⟩
              · have t6 : decide (e < b) = false := decide_eq_false c4
                have HC4 := Lib.hid c4
                clear c4
                obtain ⟨w4, rfl⟩ : ∃ w4 : World, w4 = w3 := ⟨_, rfl⟩
                have O4 : Hid (Own w4 g (((A ++ sortP (X1 ++ Y1)) ++ (sortP (X2 ++ Y2) ++ B)).flatMap Pc)) := by
                  have hz : X2 = [] := List.eq_nil_of_length_eq_zero (by have := HL.out; have := HC1.out; have := HC4.out; omega)
                  have hs : sortP (X2 ++ Y2) = X2 ++ Y2 := by rw [hz]; simp only [List.nil_append, List.append_nil]; exact sortP_id (HSP.out.2.right)
                  rw [hs]; have := O3.out; rw [List.append_assoc, List.append_assoc]; exact this
                have B4 := Lib.hid B3.out
                clear O3 B3
                go_wp2
                have O5 : Hid (Own w4 g ((A ++ (sortP (X ++ Y) ++ B)).flatMap Pc)) := by
                  have := O4.out
                  rw [List.append_assoc, ← List.append_assoc (sortP (X1 ++ Y1)), HFIN.out] at this
                  exact this
                go_end0
                exact ⟨rfl, O5.out, B4.out⟩
          · have t1 : decide (i < m) = false := decide_eq_false (by have := HL.out; omega)
            have t2 : decide (m < e) = false := decide_eq_false (by have := HL.out; omega)
            have t3 : decide (i < mid) = false := decide_eq_false (by have := HL.out; omega)
            have t4 : decide (mid < e) = false := decide_eq_false (by have := HL.out; omega)
            have HC1 := Lib.hid c1
            have HC2 := Lib.hid c2
            clear c1 c2
            go_upto_region 41 with (fail)
            obtain ⟨w2, rfl⟩ : ∃ w2 : World, w2 = wi := ⟨_, rfl⟩
            have O2 : Hid (Own w2 g ((A ++ (X1 ++ (Y1 ++ (X2 ++ (Y2 ++ B))))).flatMap Pc)) := by
              have hz : X2 = [] := List.eq_nil_of_length_eq_zero (by have := HL.out; have := HC1.out; have := HC2.out; omega)
              have := O1.out
              rw [hz] at this ⊢
              show Own _ _ _
              simpa using this
            have B2 := Lib.hid B1.out
            clear O1 B1
            by_cases c3 : a < i
            · have t5 : decide (a < i) = true := decide_eq_true c3
              have HC3 := Lib.hid c3
              clear c3
              go_upto_region 43 with (fail)
              obtain ⟨w3, rfl⟩ : ∃ w3 : World, w3 = w2 := ⟨_, rfl⟩
              have O3 : Hid (Own w3 g ((A ++ (sortP (X1 ++ Y1) ++ (X2 ++ (Y2 ++ B)))).flatMap Pc)) := by
                have hz : Y1 = [] := List.eq_nil_of_length_eq_zero (by have := HL.out; have := HC3.out; have := HC2.out; omega)
                have hs : sortP (X1 ++ Y1) = X1 ++ Y1 := by rw [hz]; simp only [List.nil_append, List.append_nil]; exact sortP_id (HSP.out.1.left)
                rw [hs, List.append_assoc]; exact O2.out
              have B3 := Lib.hid B2.out
              clear O2 B2
              by_cases c4 : e < b
              · have t6 : decide (e < b) = true := decide_eq_true c4
                have HC4 := Lib.hid c4
                clear c4
                obtain ⟨w4, rfl⟩ : ∃ w4 : World, w4 = w3 := ⟨_, rfl⟩
                have O4 : Hid (Own w4 g (((A ++ sortP (X1 ++ Y1)) ++ (sortP (X2 ++ Y2) ++ B)).flatMap Pc)) := by
                  have hz : X2 = [] := List.eq_nil_of_length_eq_zero (by have := HL.out; have := HC1.out; have := HC4.out; omega)
                  have hs : sortP (X2 ++ Y2) = X2 ++ Y2 := by rw [hz]; simp only [List.nil_append, List.append_nil]; exact sortP_id (HSP.out.2.right)
                  rw [hs]; have := O3.out; rw [List.append_assoc, List.append_assoc]; exact this
                have B4 := Lib.hid B3.out
                clear O3 B3
                go_wp2
                have O5 : Hid (Own w4 g ((A ++ (sortP (X ++ Y) ++ B)).flatMap Pc)) := by
                  have := O4.out
                  rw [List.append_assoc, ← List.append_assoc (sortP (X1 ++ Y1)), HFIN.out] at this
                  exact this
                go_end0
                exact ⟨rfl, O5.out, B4.out⟩
              · have t6 : decide (e < b) = false := decide_eq_false c4
                have HC4 := Lib.hid c4
                clear c4
                obtain ⟨w4, rfl⟩ : ∃ w4 : World, w4 = w3 := ⟨_, rfl⟩
                have O4 : Hid (Own w4 g (((A ++ sortP (X1 ++ Y1)) ++ (sortP (X2 ++ Y2) ++ B)).flatMap Pc)) := by
                  have hz : X2 = [] := List.eq_nil_of_length_eq_zero (by have := HL.out; have := HC1.out; have := HC4.out; omega)
                  have hs : sortP (X2 ++ Y2) = X2 ++ Y2 := by rw [hz]; simp only [List.nil_append, List.append_nil]; exact sortP_id (HSP.out.2.right)
                  rw [hs]; have := O3.out; rw [List.append_assoc, List.append_assoc]; exact this
                have B4 := Lib.hid B3.out
                clear O3 B3
                go_wp2
                have O5 : Hid (Own w4 g ((A ++ (sortP (X ++ Y) ++ B)).flatMap Pc)) := by
                  have := O4.out
                  rw [List.append_assoc, ← List.append_assoc (sortP (X1 ++ Y1)), HFIN.out] at this
                  exact this
                go_end0
                exact ⟨rfl, O5.out, B4.out⟩
            · have t5 : decide (a < i) = false := decide_eq_false c3
              have HC3 := Lib.hid c3
              clear c3
              go_upto_region 43 with (fail)
              obtain ⟨w3, rfl⟩ : ∃ w3 : World, w3 = w2 := ⟨_, rfl⟩
              have O3 : Hid (Own w3 g ((A ++ (sortP (X1 ++ Y1) ++ (X2 ++ (Y2 ++ B)))).flatMap Pc)) := by
                have hz : X1 = [] := List.eq_nil_of_length_eq_zero (by have := HL.out; have := HC3.out; have := HC2.out; omega)
                have hs : sortP (X1 ++ Y1) = X1 ++ Y1 := by rw [hz]; simp only [List.nil_append, List.append_nil]; exact sortP_id (HSP.out.2.left)
                rw [hs, List.append_assoc]; exact O2.out
              have B3 := Lib.hid B2.out
              clear O2 B2
              by_cases c4 : e < b
              · have t6 : decide (e < b) = true := decide_eq_true c4
                have HC4 := Lib.hid c4
                clear c4
                obtain ⟨w4, rfl⟩ : ∃ w4 : World, w4 = w3 := ⟨_, rfl⟩
                have O4 : Hid (Own w4 g (((A ++ sortP (X1 ++ Y1)) ++ (sortP (X2 ++ Y2) ++ B)).flatMap Pc)) := by
                  have hz : X2 = [] := List.eq_nil_of_length_eq_zero (by have := HL.out; have := HC1.out; have := HC4.out; omega)
                  have hs : sortP (X2 ++ Y2) = X2 ++ Y2 := by rw [hz]; simp only [List.nil_append, List.append_nil]; exact sortP_id (HSP.out.2.right)
                  rw [hs]; have := O3.out; rw [List.append_assoc, List.append_assoc]; exact this
                have B4 := Lib.hid B3.out
                clear O3 B3
                go_wp2
                have O5 : Hid (Own w4 g ((A ++ (sortP (X ++ Y) ++ B)).flatMap Pc)) := by
                  have := O4.out
                  rw [List.append_assoc, ← List.append_assoc (sortP (X1 ++ Y1)), HFIN.out] at this
                  exact this
                go_end0
                exact ⟨rfl, O5.out, B4.out⟩
              · have t6 : decide (e < b) = false := decide_eq_false c4
                have HC4 := Lib.hid c4
                clear c4
                obtain ⟨w4, rfl⟩ : ∃ w4 : World, w4 = w3 := ⟨_, rfl⟩
                have O4 : Hid (Own w4 g (((A ++ sortP (X1 ++ Y1)) ++ (sortP (X2 ++ Y2) ++ B)).flatMap Pc)) := by
                  have hz : X2 = [] := List.eq_nil_of_length_eq_zero (by have := HL.out; have := HC1.out; have := HC4.out; omega)
                  have hs : sortP (X2 ++ Y2) = X2 ++ Y2 := by rw [hz]; simp only [List.nil_append, List.append_nil]; exact sortP_id (HSP.out.2.right)
                  rw [hs]; have := O3.out; rw [List.append_assoc, List.append_assoc]; exact this
                have B4 := Lib.hid B3.out
                clear O3 B3
                go_wp2
                have O5 : Hid (Own w4 g ((A ++ (sortP (X ++ Y) ++ B)).flatMap Pc)) := by
                  have := O4.out
                  rw [List.append_assoc, ← List.append_assoc (sortP (X1 ++ Y1)), HFIN.out] at this
                  exact this
                go_end0
                exact ⟨rfl, O5.out, B4.out⟩
theorem sym_any (g cap n : Nat) (h6 : n ≤ 1000000) : ∀ z, SymOk z g cap n
  | 0, a, m, b, A, X, Y, B, w, hz, hn, ha, hm, hb, hX0, hY0, hX, hY, hO => by omega
  | z + 1, a, m, b, A, X, Y, B, w, hz, hn, ha, hm, hb, hX0, hY0, hX, hY, hO => by
    by_cases h1 : X.length = 1
    · obtain ⟨x, rfl⟩ := List.length_eq_one_iff.1 h1
      exact sym_left g cap n a m b A Y B x w hn ha hm hb hY hO h6
    by_cases h2 : Y.length = 1
    · obtain ⟨y, rfl⟩ := List.length_eq_one_iff.1 h2
      exact sym_right g cap n a m b A X B y w hn ha hm hb (by omega) hX hO h6
    · exact sym_both z g cap n a m b (sym_any g cap n h6 z) A X Y B w hz hn ha hm hb (by omega) (by omega) hX hY hO h6
end
end Go.Proofs.YticonpjkcocgeaaDoor
