/- Walks of chapter 41's laws: PairTwo. -/
import Derived.Test.YtcodpbiefidmkaaWLawF2
set_option linter.unusedVariables false
set_option linter.unusedSimpArgs false
namespace Go.Proofs.Ytcodpbiefidmkaa
open Go.ChangeShapes Go.WideShapes Go.ChangeAt Go.RowKit
open Sg

theorem OwnL.rdc {α : Type} {w : World} {base : Nat} {e : TypeId} {k : Nat} {enc : α → List Value} {v : Value} {xs : List α} (hk : ∀ x, (enc x).length = k) (h : OwnL w base e k enc v xs) : ∃ A cap, v = .slice A xs.length cap ∧ Rd w A k enc xs ∧ xs.length ≤ maxLen ∧ xs.length ≤ cap := by
  obtain ⟨A, cap, hv, hr, hm⟩ := h.rd hk
  refine ⟨A, cap, hv, hr, hm, ?_⟩
  by_cases h0 : 0 < xs.length
  · obtain ⟨g, cap', hv', hc, _⟩ := h.form h0
    rw [hv] at hv'
    injection hv' with _ _ hcc
    omega
  · omega
/-- What an accepted Confirm says. -/
theorem con_zero {l : List Prq} {k s : Int} {by_ : ByteArray} {now : Int} (h : conE l k s by_ now = 0) : ∃ i p, idxO k s l = some i ∧ l[i]? = some p ∧ dueB p now = false ∧ by_ ≠ p.by_ ∧ conL l k s by_ now = l.eraseIdx i ∧ conP l k s by_ now = p := by
  cases hx : idxO k s l with
  | none => rw [conE, hx] at h; cases h
  | some i =>
    obtain ⟨p, hp, _⟩ := idxO_at hx
    cases hd : dueB p now with
    | true => rw [(con_due (by_ := by_) hx hp hd).err] at h; cases h
    | false =>
      cases hn : nameB by_.data.toList with
      | false => rw [(con_name hx hp hd hn).err] at h; cases h
      | true =>
        by_cases hb : by_ = p.by_
        · rw [(con_same hx hp hd hn hb).err] at h; cases h
        · have hc := con_ok hx hp hd hn hb
          exact ⟨i, p, rfl, hp, hd, hb, by rw [hc.lst, List.eraseIdx_eq_take_drop_succ], hc.prq⟩
theorem con_nonzero {l : List Prq} {k s : Int} {by_ : ByteArray} {now : Int} (h : conE l k s by_ now ≠ 0) : conL l k s by_ now = [] ∧ conP l k s by_ now = Prq.z := ⟨by rw [conL, if_neg h], by rw [conP, if_neg h]⟩
def cntP (k s : Int) (l : List Prq) : Nat := (l.filter (hitP k s)).length
theorem cntP_take {k s : Int} {l : List Prq} {j : Nat} {p : Prq} (h : l[j]? = some p) : cntP k s (l.take (j + 1)) = cntP k s (l.take j) + (if hitP k s p = true then 1 else 0) := by
  obtain ⟨hl, rfl⟩ := List.getElem?_eq_some_iff.1 h
  unfold cntP
  rw [List.take_succ_eq_append_getElem hl, List.filter_append, List.length_append]
  congr 1
  by_cases hh : hitP k s l[j] = true <;> simp [hh]
theorem cntP_le (k s : Int) (l : List Prq) : cntP k s l ≤ l.length := List.length_filter_le _ _
theorem cnt_zero {k s : Int} {l : List Prq} (h : ∀ (j : Nat) t, l[j]? = some t → hitP k s t = false) : cntP k s l = 0 := by
  unfold cntP
  rw [List.length_eq_zero_iff, List.filter_eq_nil_iff]
  intro x hx
  obtain ⟨j, hj, rfl⟩ := List.getElem_of_mem hx
  rw [h j _ (List.getElem?_eq_getElem hj)]; simp
theorem cnt_pos {k s : Int} {l : List Prq} {i : Nat} {p : Prq} (hp : l[i]? = some p) (h : hitP k s p = true) : 1 ≤ cntP k s l := by
  unfold cntP
  have : p ∈ l.filter (hitP k s) := List.mem_filter.2 ⟨by obtain ⟨hl, rfl⟩ := List.getElem?_eq_some_iff.1 hp; exact List.getElem_mem hl, h⟩
  exact List.length_pos_of_mem this
theorem cnt_erase {k s : Int} {l : List Prq} {i : Nat} {p : Prq} (hp : l[i]? = some p) (h : hitP k s p = true) (hc : cntP k s l ≤ 1) : idxO k s (l.eraseIdx i) = none := by
  refine idxO_none fun j t ht => ?_
  cases ht2 : hitP k s t
  · rfl
  · exfalso
    obtain ⟨hl, rfl⟩ := List.getElem?_eq_some_iff.1 hp
    have e : l = l.take i ++ (l[i] :: l.drop (i + 1)) := by rw [List.getElem_cons_drop hl, List.take_append_drop]
    have hm : t ∈ l.eraseIdx i := by obtain ⟨hl2, rfl⟩ := List.getElem?_eq_some_iff.1 ht; exact List.getElem_mem hl2
    rw [List.eraseIdx_eq_take_drop_succ] at hm
    have hc2 : cntP k s l = cntP k s (l.take i) + (1 + cntP k s (l.drop (i + 1))) := by
      conv => lhs; rw [e]
      unfold cntP
      rw [List.filter_append, List.length_append, List.filter_cons, if_pos h, List.length_cons]; omega
    rcases List.mem_append.1 hm with hm | hm
    · have : 0 < cntP k s (l.take i) := List.length_pos_of_mem (List.mem_filter.2 ⟨hm, ht2⟩)
      omega
    · have : 0 < cntP k s (l.drop (i + 1)) := List.length_pos_of_mem (List.mem_filter.2 ⟨hm, ht2⟩)
      omega
theorem erase_I {l : List Prq} (i : Nat) (hI : ∀ (i : Nat) x, l[i]? = some x → PrqI x) : ∀ (j : Nat) x, (l.eraseIdx i)[j]? = some x → PrqI x := fun j x h => by
  have hx : x ∈ l.eraseIdx i := by obtain ⟨hl, rfl⟩ := List.getElem?_eq_some_iff.1 h; exact List.getElem_mem hl
  have hx2 := (List.eraseIdx_sublist l i).subset hx
  obtain ⟨j, hj, rfl⟩ := List.getElem_of_mem hx2
  exact hI j _ (List.getElem?_eq_getElem hj)
theorem hit_key {k s : Int} {p : Prq} (hh : hitP k s p = false) : (p.kind == k) = false ∨ ((p.kind == k) = true ∧ (p.subject == s) = false) := by
  unfold hitP at hh
  cases h1 : (p.kind == k)
  · exact .inl rfl
  · rw [h1, Bool.true_and] at hh; exact .inr ⟨rfl, hh⟩
set_option maxRecDepth 100000 in
set_option maxHeartbeats 16000000 in
theorem two_walk (A : Option Addr) (l : List Prq) (c : Nat) (k s : Int) (by_ : ByteArray) (now : Int) (w : World) (hm : l.length ≤ maxLen) (hc : l.length ≤ c) (hn : I64 now) (hb : by_.size ≤ maxLen) (hI : ∀ (i : Nat) x, l[i]? = some x → PrqI x) (hr : Rd w A 4 Prc l) :
    Calls Try.prog 6 #[.slice A l.length c, .int .i64 k, .int .i64 s, .string by_, .int .i64 now] w fun e w' => e = .returned (.bool true) ∧ Below w.heap.size w w' := by
  have HM := Lib.hid hm
  have HN := Lib.hid hn
  have HB := Lib.hid hb
  have HI := Lib.hid hI
  have HR := Lib.hid hr
  obtain ⟨i0, hi, hz0, hz1, hz2⟩ := info_parts inf_Pr
  clear hr hn hb hI
  cases hlg : largeB l by_ with
  | true =>
    have HLG := Lib.hid hlg
    clear hlg
    go_enter Try.func6, Try.ntmps6
    go_wp2_with fail
    refine (to_after (large_any A l c by_ _ HM.out HB.out HI.out HR.out)).mono ?_
    rintro e w' ⟨y1, rfl, rfl⟩
    rw [HLG.out]
    go_wp2_with fail
    refine (in_after y1 (alive_any _)).mono ?_
    rintro e w' ⟨y2, rfl, rfl⟩
    go_wp2_with fail
    go_ret
    exact ⟨rfl, y2.is⟩
  | false =>
    have hs := (largeB_false.1 hlg).1
    have HLG := Lib.hid hlg
    clear hlg
    by_cases h0 : conE l k s by_ now = 0
    · obtain ⟨i, p, z1, z2, z3, z4, z5, z6⟩ := con_zero h0
      obtain ⟨_, z7, z8, z9⟩ := idxO_at z1
      rw [z2] at z7; cases z7
      have HX := Lib.hid z1
      have HP := Lib.hid z2
      have HL := Lib.hid z5
      have HC := Lib.hid z6
      have HE := Lib.hid h0
      have HH := Lib.hid z8
      have HF := Lib.hid z9
      have hil : i < l.length := (List.getElem?_eq_some_iff.1 z2).1
      have hpi := HI.out i p z2
      have dd : ¬ (now < p.since ∨ 10 < now - p.since) := fun h => by have := dueB_true.2 h; rw [z3] at this; cases this
      have d1 : decide (now < p.since) = false := decide_eq_false (by omega)
      have hu := u64_dif HN.out hpi.2.2.1 (by omega)
      have d2 : decide (10 < now - p.since) = false := decide_eq_false (by omega)
      obtain ⟨n1, n2⟩ := str_ne (a := p.by_) (b := by_) (fun e => z4 e.symm)
      clear z1 z2 z3 z4 z5 z6 z8 z9 h0 dd hpi
      go_enter Try.func6, Try.ntmps6
      go_wp2_with fail
      refine (to_after (large_any A l c by_ _ HM.out HB.out HI.out HR.out)).mono ?_
      rintro e w' ⟨y1, rfl, rfl⟩
      rw [HLG.out]
      go_wp2_with fail
      refine (confirm_any A l c k s by_ now _ (by omega) hc HN.out HB.out HI.out (HR.out.keep y1.is)).mono ?_
      rintro e w2 ⟨v2, rfl, ho2, hb2⟩
      rw [HL.out] at ho2
      rw [HC.out, HE.out]
      obtain ⟨A2, cap2, rfl, hr2, hm2, hcp2⟩ := ho2.rdc Prc_len
      have HR2 := Lib.hid hr2
      have HM2 := Lib.hid hm2
      have HB2 := Lib.hid (etr y1.is hb2)
      have HPB := Lib.hid (CellsAt.new (w := w2) (cs := (Prc p).toArray) (t := 24) rfl)
      clear ho2 hr2 hm2 hb2
      go_wp2
      obtain ⟨w3, hw3⟩ : ∃ w3, w3 = w2.alloc (.cells #[.int .i64 p.kind, .int .i64 p.subject, .int .i64 p.since, .string p.by_] 24) := ⟨_, rfl⟩
      have HB3 : Hid (Ext w2 w3) := by show Ext w2 w3; rw [hw3]; exact eal (Ext.refl _) _
      rw [← hw3]
      have HPB3 : Hid (CellsAt w3 w2.heap.size (Prc p)) := by show CellsAt _ _ _; rw [hw3]; exact HPB.out
      clear hw3 HPB
      go_loopg [14, 15, 16] l.length (fun g nn u ii wr => ∃ j : Nat, ii = .int .i64 j ∧ j ≤ l.length ∧ g = l.length - j ∧ nn = .int .i64 ((cntP k s (l.take j) : Nat)) ∧ Hid (Ext w3 wr ∧ OwnL wr w3.heap.size 24 4 Prc u ((l.take j).eraseIdx i)))
      case atStart => exact ⟨0, rfl, by omega, rfl, rfl, Ext.refl _, OwnL.nil⟩
      case round =>
        obtain ⟨j, rfl, hj, hg, rfl, H⟩ := hrel
        have HG := Lib.hid hg
        clear hg
        have CP := HPB3.out.keep H.out.1
        have p0 := CP.2 0 _ rfl
        have p1 := CP.2 1 _ rfl
        have p2 := CP.2 2 _ rfl
        have p3 := CP.2 3 _ rfl
        have pz := CP.1
        clear CP
        have hcl := cntP_le k s (l.take j)
        have hcl2 : cntP k s (l.take j) ≤ 100 := by simp at hcl; omega
        clear hcl
        by_cases hlt : j < l.length
        · obtain ⟨b, off, q, rfl, hq, hbs, c0, c1, c2, c3⟩ := rd_pr HR.out (etr (etr HB2.out HB3.out) H.out.1) hlt
          have HT := Lib.hid (erase_take hq i)
          have HCT := Lib.hid (cntP_take (k := k) (s := s) hq)
          have hlen : ((l.take j).eraseIdx i).length ≤ j := by have := erase_len (l.take j) i; simp at this ⊢; omega
          cases hh : hitP k s q
          · have hji : j ≠ i := fun e => by subst e; have := HP.out; rw [hq] at this; cases this; rw [HH.out] at hh; cases hh
            have HQ : Hid ((l.take (j + 1)).eraseIdx i = (l.take j).eraseIdx i ++ [q]) := by show _ = _; rw [HT.out, if_neg hji]
            have key := hit_key hh
            rw [hh] at HCT
            clear hq hh hji
            rcases key with q1 | ⟨q1, q2⟩
            · go_wp2
              refine wp_region_after (by kernel_rfl) (by kernel_rfl) ?_
              repeat (first | go_big_quiet_step (fail))
              refine wpQuiet_nil ?_
              rintro _ ⟨y5, rfl⟩
              go_wp2_with (at_builtin
                           refine wp_appE (u := w3) Prc_len Prc_one Try.underlying22 hi hz0 hz1 hz2 rfl (by decide) rfl rfl rfl (H.out.2.keep (eal (etr (Ext.refl _) y5.is) _)) (eal (etr H.out.1 y5.is) _) q y5.val.heap.size (by simp [go_sem]) (by exact CellsAt.new rfl) (by omega) (by unfold maxLen; omega) ?_
                           intro v1 w1 H1)
              go_roundg (l.length - (j + 1))
              case measure => have := HG.out; omega
              case rel => exact ⟨j + 1, by go_num, by omega, rfl, by rw [HCT.out]; rfl, H1.out.2.1, by rw [HQ.out]; exact H1.out.1⟩
            · go_wp2
              refine wp_region_after (by kernel_rfl) (by kernel_rfl) ?_
              repeat (first | go_big_quiet_step (fail))
              refine wpQuiet_nil ?_
              rintro _ ⟨y5, rfl⟩
              go_wp2_with (at_builtin
                           refine wp_appE (u := w3) Prc_len Prc_one Try.underlying22 hi hz0 hz1 hz2 rfl (by decide) rfl rfl rfl (H.out.2.keep (eal (etr (Ext.refl _) y5.is) _)) (eal (etr H.out.1 y5.is) _) q y5.val.heap.size (by simp [go_sem]) (by exact CellsAt.new rfl) (by omega) (by unfold maxLen; omega) ?_
                           intro v1 w1 H1)
              go_roundg (l.length - (j + 1))
              case measure => have := HG.out; omega
              case rel => exact ⟨j + 1, by go_num, by omega, rfl, by rw [HCT.out]; rfl, H1.out.2.1, by rw [HQ.out]; exact H1.out.1⟩
          · obtain ⟨q1, q2⟩ : (q.kind == k) = true ∧ (q.subject == s) = true := by unfold hitP at hh; simpa using hh
            rcases Nat.lt_trichotomy j i with hji | hji | hji
            · have := HF.out j q hji hq
              rw [this] at hh; cases hh
            · subst hji
              obtain rfl : p = q := by have := HP.out; rw [hq] at this; cases this; rfl
              have HQ : Hid ((l.take (j + 1)).eraseIdx j = (l.take j).eraseIdx j) := by show _ = _; rw [HT.out, if_pos rfl, List.append_nil]
              have hz : cntP k s (l.take j) = 0 := cnt_zero fun m t ht => HF.out m t (by have := (List.getElem?_eq_some_iff.1 ht).1; simp at this; omega) (by
                have hlm := (List.getElem?_eq_some_iff.1 ht).1
                rwa [List.getElem?_take_of_lt (by simp at hlm; omega)] at ht)
              have hz' : (((cntP k s (l.take j) : Nat) : Int) == 0) = true := by rw [hz]; rfl
              have hz2' : decide ((1 : Int) < ((cntP k s (l.take j) : Nat) : Int) + 1) = false := decide_eq_false (by omega)
              rw [hh] at HCT
              clear hq hh hz
              go_wp2
              refine wp_region_after (by kernel_rfl) (by kernel_rfl) ?_
              repeat (first | go_big_quiet_step (fail))
              refine wpQuiet_nil ?_
              rintro _ ⟨y5, rfl⟩
              go_wp2
              go_roundg (l.length - (j + 1))
              case measure => have := HG.out; omega
              case rel => exact ⟨j + 1, by go_num, by omega, rfl, by rw [HCT.out]; go_num, etr H.out.1 y5.is, by rw [HQ.out]; exact H.out.2.keep y5.is⟩
            · have HQ : Hid ((l.take (j + 1)).eraseIdx i = (l.take j).eraseIdx i ++ [q]) := by show _ = _; rw [HT.out, if_neg (by omega)]
              have hz : 1 ≤ cntP k s (l.take j) := cnt_pos (i := i) (p := p) (by rw [List.getElem?_take_of_lt hji]; exact HP.out) HH.out
              have hz' : (((cntP k s (l.take j) : Nat) : Int) == 0) = false := by rw [beq_eq_false_iff_ne]; omega
              have hz2' : decide ((1 : Int) < ((cntP k s (l.take j) : Nat) : Int) + 1) = true := decide_eq_true (by omega)
              have hz3 : 0 < cntP k s (l.take j) := by omega
              rw [hh] at HCT
              clear hq hh hz
              go_wp2
              refine wp_region_after (by kernel_rfl) (by kernel_rfl) ?_
              repeat (first | go_big_quiet_step (fail))
              refine wpQuiet_nil ?_
              rintro _ ⟨y5, rfl⟩
              go_wp2_with (at_builtin
                           refine wp_appE (u := w3) Prc_len Prc_one Try.underlying22 hi hz0 hz1 hz2 rfl (by decide) rfl rfl rfl (H.out.2.keep (eal (etr (Ext.refl _) y5.is) _)) (eal (etr H.out.1 y5.is) _) q y5.val.heap.size (by simp [go_sem]) (by exact CellsAt.new rfl) (by omega) (by unfold maxLen; omega) ?_
                           intro v1 w1 H1)
              go_roundg (l.length - (j + 1))
              case measure => have := HG.out; omega
              case rel => exact ⟨j + 1, by go_num, by omega, rfl, by rw [HCT.out]; go_num, H1.out.2.1, by rw [HQ.out]; exact H1.out.1⟩
        · have HQ : Hid ((l.take j).eraseIdx i = l.eraseIdx i) := by show _ = _; rw [List.take_of_length_le (by omega)]
          have HCT : Hid (cntP k s (l.take j) = cntP k s l) := by show _ = _; rw [List.take_of_length_le (by omega)]
          have ho := H.out.2
          rw [HQ.out] at ho
          obtain ⟨A4, cap4, rfl, hr4, hm4⟩ := ho.rd Prc_len
          have HR4 := Lib.hid hr4
          have HM4 := Lib.hid hm4
          have hz := cnt_pos HP.out HH.out
          rw [HCT.out] at hcl2 ⊢
          have hz' : (((cntP k s l : Nat) : Int) == 0) = false := by rw [beq_eq_false_iff_ne]; omega
          have hel := erase_len l i
          clear ho hr4 hm4
          go_wp2_with fail
          refine (to_after (same_pr A2 A4 (l.eraseIdx i) (l.eraseIdx i) cap2 cap4 _ HM2.out HM4.out (HR2.out.keep (etr HB3.out H.out.1)) HR4.out)).mono ?_
          rintro e w' ⟨y6, rfl, rfl⟩
          rw [sml_self]
          have HB6 := Lib.hid (etr (etr (etr HB2.out HB3.out) H.out.1) y6.is)
          go_wp2_with fail
          refine (confirm_any A2 (l.eraseIdx i) cap2 k s by_ now _ (by omega) hcp2 HN.out HB.out (erase_I i HI.out) (HR2.out.keep (etr (etr HB3.out H.out.1) y6.is))).mono ?_
          rintro e w7 ⟨v7, rfl, ho7, hb7⟩
          obtain ⟨A7, cap7, rfl, _, _⟩ := ho7.rd Prc_len
          have HB7 := Lib.hid (etr HB6.out hb7)
          clear ho7 hb7
          by_cases hone : cntP k s l ≤ 1
          · have hcn := (con_none (by_ := by_) (now := now) (cnt_erase HP.out HH.out hone)).err
            have hone' : decide ((1 : Int) < ((cntP k s l : Nat) : Int)) = false := decide_eq_false (by omega)
            rw [hcn]
            clear hcn
            go_wp2_with fail
            refine (to_after (alive_any _)).mono ?_
            rintro e w' ⟨y8, rfl, rfl⟩
            go_wp2_with fail
            go_ret
            exact ⟨rfl, etr (eal HB7.out _) y8.is⟩
          · have hone' : decide ((1 : Int) < ((cntP k s l : Nat) : Int)) = true := decide_eq_true (by omega)
            go_wp2_with fail
            refine (to_after (alive_any _)).mono ?_
            rintro e w' ⟨y8, rfl, rfl⟩
            go_wp2_with fail
            go_ret
            exact ⟨rfl, etr (eal HB7.out _) y8.is⟩
    · obtain ⟨z1, z2⟩ := con_nonzero h0
      have HL := Lib.hid z1
      have HC := Lib.hid z2
      have e0 : (conE l k s by_ now != 0) = true := by simpa using h0
      clear z1 z2 h0
      go_enter Try.func6, Try.ntmps6
      go_wp2_with fail
      refine (to_after (large_any A l c by_ _ HM.out HB.out HI.out HR.out)).mono ?_
      rintro e w' ⟨y1, rfl, rfl⟩
      rw [HLG.out]
      go_wp2_with fail
      refine (confirm_any A l c k s by_ now _ (by omega) hc HN.out HB.out HI.out (HR.out.keep y1.is)).mono ?_
      rintro e w2 ⟨v2, rfl, ho2, hb2⟩
      rw [HL.out] at ho2
      rw [HC.out, show Prq.z = ⟨0, 0, 0, ⟨#[]⟩⟩ from rfl]
      obtain ⟨A2, cap2, rfl, _, _⟩ := ho2.rd Prc_len
      have HB2 := Lib.hid (etr y1.is hb2)
      clear ho2 hb2
      go_wp2_with fail
      refine (to_after (alive_any _)).mono ?_
      rintro e w' ⟨y2, rfl, rfl⟩
      go_wp2_with fail
      go_ret
      exact ⟨rfl, etr (eal HB2.out _) y2.is⟩
end Go.Proofs.Ytcodpbiefidmkaa
