/- Walks of package pair's reference: Confirm. -/
import Derived.Test.YtcodpbiefidmkaaWPairE
set_option linter.unusedVariables false
set_option linter.unusedSimpArgs false
namespace Go.Proofs.Ytcodpbiefidmkaa
open Go.ChangeShapes Go.WideShapes Go.ChangeAt Go.RowKit
open Sg

theorem erase_take {l : List Prq} {k : Nat} {p : Prq} (h : l[k]? = some p) (i : Nat) : (l.take (k + 1)).eraseIdx i = (l.take k).eraseIdx i ++ (if k = i then [] else [p]) := by
  obtain ⟨hl, rfl⟩ := List.getElem?_eq_some_iff.1 h
  have hk : (l.take k).length = k := by simp; omega
  rw [List.take_succ_eq_append_getElem hl]
  rcases Nat.lt_trichotomy i k with c | c | c
  · rw [List.eraseIdx_append_of_lt_length (by omega), if_neg (by omega)]
  · subst c
    rw [List.eraseIdx_append_of_length_le (by omega), if_pos rfl, hk, Nat.sub_self, List.eraseIdx_of_length_le (l := l.take i) (by omega)]
    rfl
  · rw [List.eraseIdx_append_of_length_le (by omega), if_neg (by omega), hk, List.eraseIdx_of_length_le (l := l.take k) (by omega), List.eraseIdx_of_length_le (by simp; omega)]
theorem erase_len (l : List Prq) (i : Nat) : (l.eraseIdx i).length ≤ l.length := by rw [List.length_eraseIdx]; split <;> omega
set_option maxHeartbeats 4000000 in
theorem without_any (A : Option Addr) (l : List Prq) (c i : Nat) (w : World) (hm : l.length ≤ 400000) (hi2 : i < l.length) (hr : Rd w A 4 Prc l) :
    Calls Try.prog 26 #[.slice A l.length c, .int .i64 i] w fun e w' => ∃ v, e = .returned v ∧ OwnL w' w.heap.size 24 4 Prc v (l.take i ++ l.drop (i + 1)) ∧ Below w.heap.size w w' := by
  have HR := Lib.hid hr
  clear hr
  obtain ⟨i0, hi, hz0, hz1, hz2⟩ := info_parts inf_Pr
  go_enter Try.func26, Try.ntmps26
  go_wp2
  go_loopg [5, 6] l.length (fun g u j wr => ∃ k : Nat, j = .int .i64 k ∧ k ≤ l.length ∧ g = l.length - k ∧ Hid (Ext w wr ∧ OwnL wr w.heap.size 24 4 Prc u ((l.take k).eraseIdx i)))
  case atStart => exact ⟨0, rfl, by omega, rfl, Ext.refl _, OwnL.nil⟩
  case round =>
    obtain ⟨k, rfl, hk, hg, H⟩ := hrel
    have HG := Lib.hid hg
    clear hg
    by_cases hlt : k < l.length
    · obtain ⟨b, off, p, rfl, hs, hbs, c0, c1, c2, c3⟩ := rd_pr HR.out H.out.1 hlt
      have HT := Lib.hid (erase_take hs i)
      have hsz := H.out.1.size
      have hlen : ((l.take k).eraseIdx i).length ≤ k := by have := erase_len (l.take k) i; simp at this ⊢; omega
      clear hs
      by_cases hki : k = i
      · have HQ : Hid ((l.take (k + 1)).eraseIdx i = (l.take k).eraseIdx i) := by show _ = _; rw [HT.out, if_pos hki, List.append_nil]
        have hki' : ((k : Int) != (i : Int)) = false := by simp [hki]
        clear hki
        go_wp2
        go_roundg (l.length - (k + 1))
        case measure => have := HG.out; omega
        case rel => exact ⟨k + 1, by go_num, by omega, rfl, H.out.1, by rw [HQ.out]; exact H.out.2⟩
      · have HQ : Hid ((l.take (k + 1)).eraseIdx i = (l.take k).eraseIdx i ++ [p]) := by show _ = _; rw [HT.out, if_neg hki]
        have hki' : ((k : Int) != (i : Int)) = true := by simp; omega
        clear hki
        go_wp2_with (at_builtin
                     refine wp_appE (u := w) Prc_len Prc_one Try.underlying22 hi hz0 hz1 hz2 rfl (by decide) rfl rfl rfl (H.out.2.keep (eal (Ext.refl _) _)) (eal H.out.1 _) p wr.heap.size (by simp [go_sem]) (by exact CellsAt.new rfl) (by omega) (by unfold maxLen; omega) ?_
                     intro v1 w1 H1)
        go_roundg (l.length - (k + 1))
        case measure => have := HG.out; omega
        case rel => exact ⟨k + 1, by go_num, by omega, rfl, H1.out.2.1, by rw [HQ.out]; exact H1.out.1⟩
    · have HQ : Hid ((l.take k).eraseIdx i = l.take i ++ l.drop (i + 1)) := by show _ = _; rw [List.take_of_length_le (by omega), List.eraseIdx_eq_take_drop_succ]
      go_wp2
      go_ret
      exact ⟨_, rfl, by rw [← HQ.out]; exact H.out.2, H.out.1⟩
set_option maxHeartbeats 8000000 in
theorem rconfirm_any (A : Option Addr) (l : List Prq) (c : Nat) (k s : Int) (by_ : ByteArray) (now : Int) (w : World) (hm : l.length ≤ 400000) (hn : I64 now) (hb : by_.size ≤ maxLen) (hI : ∀ (i : Nat) x, l[i]? = some x → PrqI x) (hr : Rd w A 4 Prc l) :
    Calls Try.prog 14 #[.slice A l.length c, .int .i64 k, .int .i64 s, .string by_, .int .i64 now] w fun e w' => ∃ v, e = .returned (.tuple #[v, .agg #[.int .i64 (conP l k s by_ now).kind, .int .i64 (conP l k s by_ now).subject, .int .i64 (conP l k s by_ now).since, .string (conP l k s by_ now).by_], .int .i64 (conE l k s by_ now)]) ∧ OwnL w' w.heap.size 24 4 Prc v (conL l k s by_ now) ∧ Below w.heap.size w w' := by
  have HM : Hid (l.length ≤ maxLen) := by show _ ≤ _; unfold maxLen; omega
  have HR := Lib.hid hr
  have HI := Lib.hid hI
  have HN := Lib.hid hn
  have HBY := Lib.hid hb
  clear hr hI hn hb
  cases hx : idxO k s l with
  | none =>
    have HC := Lib.hid (con_none (by_ := by_) (now := now) hx)
    have HX : Hid (idxV k s l = -1) := idxV_none hx
    clear hx
    go_enter Try.func14, Try.ntmps14
    go_wp2_with fail
    refine (to_after (find_any A l c k s _ HM.out (HR.out.keep (eal (Ext.refl _) _)))).mono ?_
    rintro e w' ⟨y, rfl, rfl⟩
    rw [HX.out]
    have z1 : w.heap.size < y.val.heap.size := by have := y.is.size; simp at this; omega
    go_wp2_with fail
    refine bodyPost_ret (v := .tuple #[.slice none 0 0, .agg #[.int .i64 (conP l k s by_ now).kind, .int .i64 (conP l k s by_ now).subject, .int .i64 (conP l k s by_ now).since, .string (conP l k s by_ now).by_], .int .i64 (conE l k s by_ now)]) (by rw [HC.out.err, HC.out.prq]; simp [results, Try.results14, go_sem, Prq.z, z1]) rfl ⟨_, rfl, by rw [HC.out.lst]; exact OwnL.nil, ?_⟩
    exact eset (eset (eset (eset (etr (eal (Ext.refl _) _) y.is) (Nat.le_refl _) _ _) (Nat.le_refl _) _ _) (Nat.le_refl _) _ _) (Nat.le_refl _) _ _
  | some i =>
    have HX : Hid (idxV k s l = i) := idxV_some hx
    obtain ⟨p, hp, _, _⟩ := idxO_at hx
    have hil : i < l.length := (List.getElem?_eq_some_iff.1 hp).1
    have HPI := Lib.hid (HI.out i p hp)
    have HP := Lib.hid hp
    have hi0 : decide ((i : Int) < 0) = false := decide_eq_false (by omega)
    cases hd : dueB p now with
    | true =>
      have HC := Lib.hid (con_due (by_ := by_) hx hp hd)
      have HD := Lib.hid hd
      clear hx hp hd
      go_enter Try.func14, Try.ntmps14
      go_wp2_with fail
      refine (to_after (find_any A l c k s _ HM.out (HR.out.keep (eal (Ext.refl _) _)))).mono ?_
      rintro e w' ⟨y, rfl, rfl⟩
      rw [HX.out]
      have HB := Lib.hid (etr (eal (Ext.refl w) _) y.is)
      have z1 : w.heap.size < y.val.heap.size := by have := y.is.size; simp at this; omega
      obtain ⟨b, off, p', rfl, hp', hbs, c0, c1, c2, c3⟩ := rd_pr HR.out HB.out hil
      obtain rfl : p = p' := by have := HP.out; rw [hp'] at this; cases this; rfl
      clear hp'
      go_wp2_with fail
      refine (in_after y (rdue_any p now _ HPI.out.2.2.1 HN.out)).mono ?_
      rintro e w' ⟨y3, rfl, rfl⟩
      clear c0 c1 c2 c3 hbs z1
      have HB3 := Lib.hid (etr (eal (Ext.refl w) _) y3.is)
      have z1 : w.heap.size < y3.val.heap.size := by have := y3.is.size; simp at this; omega
      obtain ⟨b2, off2, p', hA2, hp', hbs, c0, c1, c2, c3⟩ := rd_pr HR.out HB3.out hil
      obtain rfl : p = p' := by have := HP.out; rw [hp'] at this; cases this; rfl
      injection hA2 with hA2
      injection hA2 with hA21 hA22
      subst hA21 hA22
      clear hp'
      rw [HD.out]
      go_wp2_with fail
      refine bodyPost_ret (v := .tuple #[.slice none 0 0, .agg #[.int .i64 (conP l k s by_ now).kind, .int .i64 (conP l k s by_ now).subject, .int .i64 (conP l k s by_ now).since, .string (conP l k s by_ now).by_], .int .i64 (conE l k s by_ now)]) (by rw [HC.out.err, HC.out.prq]; simp [results, Try.results14, go_sem, Prq.z, z1]) rfl ⟨_, rfl, by rw [HC.out.lst]; exact OwnL.nil, ?_⟩
      exact eset (eset (eset (eset (HB3.out) (Nat.le_refl _) _ _) (Nat.le_refl _) _ _) (Nat.le_refl _) _ _) (Nat.le_refl _) _ _
    | false =>
      cases hnm : nameB by_.data.toList with
      | false =>
        have HC := Lib.hid (con_name hx hp hd hnm)
        have HD := Lib.hid hd
        have HNM := Lib.hid hnm
        clear hx hp hd hnm
        go_enter Try.func14, Try.ntmps14
        go_wp2_with fail
        refine (to_after (find_any A l c k s _ HM.out (HR.out.keep (eal (Ext.refl _) _)))).mono ?_
        rintro e w' ⟨y, rfl, rfl⟩
        rw [HX.out]
        have HB := Lib.hid (etr (eal (Ext.refl w) _) y.is)
        have z1 : w.heap.size < y.val.heap.size := by have := y.is.size; simp at this; omega
        obtain ⟨b, off, p', rfl, hp', hbs, c0, c1, c2, c3⟩ := rd_pr HR.out HB.out hil
        obtain rfl : p = p' := by have := HP.out; rw [hp'] at this; cases this; rfl
        clear hp'
        go_wp2_with fail
        refine (in_after y (rdue_any p now _ HPI.out.2.2.1 HN.out)).mono ?_
        rintro e w' ⟨y3, rfl, rfl⟩
        clear c0 c1 c2 c3 hbs z1
        have HB3 := Lib.hid (etr (eal (Ext.refl w) _) y3.is)
        have z1 : w.heap.size < y3.val.heap.size := by have := y3.is.size; simp at this; omega
        obtain ⟨b2, off2, p', hA2, hp', hbs, c0, c1, c2, c3⟩ := rd_pr HR.out HB3.out hil
        obtain rfl : p = p' := by have := HP.out; rw [hp'] at this; cases this; rfl
        injection hA2 with hA2
        injection hA2 with hA21 hA22
        subst hA21 hA22
        clear hp'
        rw [HD.out]
        go_wp2_with fail
        refine (rname_any by_ _ HBY.out).mono ?_
        rintro e w' ⟨rfl, rfl⟩
        rw [HNM.out]
        go_wp2_with fail
        refine bodyPost_ret (v := .tuple #[.slice none 0 0, .agg #[.int .i64 (conP l k s by_ now).kind, .int .i64 (conP l k s by_ now).subject, .int .i64 (conP l k s by_ now).since, .string (conP l k s by_ now).by_], .int .i64 (conE l k s by_ now)]) (by rw [HC.out.err, HC.out.prq]; simp [results, Try.results14, go_sem, Prq.z, z1]) rfl ⟨_, rfl, by rw [HC.out.lst]; exact OwnL.nil, ?_⟩
        exact eset (eset (eset (eset (HB3.out) (Nat.le_refl _) _ _) (Nat.le_refl _) _ _) (Nat.le_refl _) _ _) (Nat.le_refl _) _ _
      | true =>
        by_cases hby : by_ = p.by_
        · have HC := Lib.hid (con_same hx hp hd hnm hby)
          have HD := Lib.hid hd
          have HNM := Lib.hid hnm
          have hq : (by_.toList == p.by_.toList) = true := by rw [hby]; simp
          clear hx hp hd hnm hby
          go_enter Try.func14, Try.ntmps14
          go_wp2_with fail
          refine (to_after (find_any A l c k s _ HM.out (HR.out.keep (eal (Ext.refl _) _)))).mono ?_
          rintro e w' ⟨y, rfl, rfl⟩
          rw [HX.out]
          have HB := Lib.hid (etr (eal (Ext.refl w) _) y.is)
          have z1 : w.heap.size < y.val.heap.size := by have := y.is.size; simp at this; omega
          obtain ⟨b, off, p', rfl, hp', hbs, c0, c1, c2, c3⟩ := rd_pr HR.out HB.out hil
          obtain rfl : p = p' := by have := HP.out; rw [hp'] at this; cases this; rfl
          clear hp'
          go_wp2_with fail
          refine (in_after y (rdue_any p now _ HPI.out.2.2.1 HN.out)).mono ?_
          rintro e w' ⟨y3, rfl, rfl⟩
          clear c0 c1 c2 c3 hbs z1
          have HB3 := Lib.hid (etr (eal (Ext.refl w) _) y3.is)
          have z1 : w.heap.size < y3.val.heap.size := by have := y3.is.size; simp at this; omega
          obtain ⟨b2, off2, p', hA2, hp', hbs, c0, c1, c2, c3⟩ := rd_pr HR.out HB3.out hil
          obtain rfl : p = p' := by have := HP.out; rw [hp'] at this; cases this; rfl
          injection hA2 with hA2
          injection hA2 with hA21 hA22
          subst hA21 hA22
          clear hp'
          rw [HD.out]
          go_wp2_with fail
          refine (rname_any by_ _ HBY.out).mono ?_
          rintro e w' ⟨rfl, rfl⟩
          rw [HNM.out]
          go_wp2_with fail
          refine bodyPost_ret (v := .tuple #[.slice none 0 0, .agg #[.int .i64 (conP l k s by_ now).kind, .int .i64 (conP l k s by_ now).subject, .int .i64 (conP l k s by_ now).since, .string (conP l k s by_ now).by_], .int .i64 (conE l k s by_ now)]) (by rw [HC.out.err, HC.out.prq]; simp [results, Try.results14, go_sem, Prq.z, z1]) rfl ⟨_, rfl, by rw [HC.out.lst]; exact OwnL.nil, ?_⟩
          exact eset (eset (eset (eset (HB3.out) (Nat.le_refl _) _ _) (Nat.le_refl _) _ _) (Nat.le_refl _) _ _) (Nat.le_refl _) _ _
        · have HC := Lib.hid (con_ok hx hp hd hnm hby)
          have HD := Lib.hid hd
          have HNM := Lib.hid hnm
          obtain ⟨hq, hq2⟩ := str_ne hby
          clear hx hp hd hnm hby
          go_enter Try.func14, Try.ntmps14
          go_wp2_with fail
          refine (to_after (find_any A l c k s _ HM.out (HR.out.keep (eal (Ext.refl _) _)))).mono ?_
          rintro e w' ⟨y, rfl, rfl⟩
          rw [HX.out]
          have HB := Lib.hid (etr (eal (Ext.refl w) _) y.is)
          have z1 : w.heap.size < y.val.heap.size := by have := y.is.size; simp at this; omega
          obtain ⟨b, off, p', rfl, hp', hbs, c0, c1, c2, c3⟩ := rd_pr HR.out HB.out hil
          obtain rfl : p = p' := by have := HP.out; rw [hp'] at this; cases this; rfl
          clear hp'
          go_wp2_with fail
          refine (in_after y (rdue_any p now _ HPI.out.2.2.1 HN.out)).mono ?_
          rintro e w' ⟨y3, rfl, rfl⟩
          clear c0 c1 c2 c3 hbs z1
          have HB3 := Lib.hid (etr (eal (Ext.refl w) _) y3.is)
          have z1 : w.heap.size < y3.val.heap.size := by have := y3.is.size; simp at this; omega
          obtain ⟨b2, off2, p', hA2, hp', hbs, c0, c1, c2, c3⟩ := rd_pr HR.out HB3.out hil
          obtain rfl : p = p' := by have := HP.out; rw [hp'] at this; cases this; rfl
          injection hA2 with hA2
          injection hA2 with hA21 hA22
          subst hA21 hA22
          clear hp'
          rw [HD.out]
          go_wp2_with fail
          refine (rname_any by_ _ HBY.out).mono ?_
          rintro e w' ⟨rfl, rfl⟩
          rw [HNM.out]
          go_wp2_with fail
          refine wp_region_head 8 [0, 1, 3, 4, 5, 6] 2 (by kernel_rfl) (by kernel_rfl) (fun _ _ d _ _ h => by cases d <;> exact h) (by kernel_rfl) (by kernel_rfl) (by decide) (by kernel_rfl) rfl ?_
          repeat (refine wpE_step rfl (fun K hK => ?_); go_simp; (refine hK _ ?_; clear hK K))
          refine wpE_nil ?_
          intro x
          have HBx := Lib.hid (etr HB3.out x.is)
          refine headR_ready (rs := [2]) (by kernel_rfl) (by simp) (AllH.cons (by decide) rfl (fun K hK => ?_) AllH.nil)
          go_simp
          go_wp2_with (go_at_call 26; refine (without_any _ l c i _ hm hil (HR.out.keep HBx.out)).mono ?_; rintro e w5 ⟨v5, rfl, ho5, hb5⟩; have HO5 := Lib.hid ho5; have HB5 := Lib.hid hb5; clear ho5 hb5)
          refine hK _ _ HB5.out (fun z8 => ?_)
          clear hK K
          refine headR_ready (rs := [7]) (by kernel_rfl) (by simp) (AllH.cons (by decide) rfl (fun K hK => ?_) AllH.nil)
          go_simp
          refine hK _ _ (Ext.refl _) (fun z9 => ?_)
          clear hK K
          refine headR_tail (by kernel_rfl) ?_
          have HX9 := Lib.hid (etr (etr (etr HBx.out HB5.out) z8.is) z9.is)
          have HE9 := Lib.hid (etr (etr y3.is x.is) (etr HB5.out (etr z8.is z9.is)))
          have CW := (CellsAt.new (w := w) (cs := #[.int .i64 0, .int .i64 0, .int .i64 0, .string ⟨#[]⟩]) (t := 24) rfl).keep HE9.out
          have g0 := CW.2 0 _ rfl
          have g1 := CW.2 1 _ rfl
          have g2 := CW.2 2 _ rfl
          have g3 := CW.2 3 _ rfl
          have gz := CW.1
          have gf : ∀ j, z9.val.frozen? ⟨w.heap.size, j, none⟩ = false := fun j => ((HE9.out).frozen (p := ⟨w.heap.size, j, none⟩) (by simp)).trans (World.frozen?_alloc_at _ _ _ _ rfl)
          have gf0 := gf 0
          have gf1 := gf 1
          have gf2 := gf 2
          have gf3 := gf 3
          have HO9 := Lib.hid ((((HO5.out.keep z8.is).keep z9.is).only ((((Only.set _ w.heap.size 0 (.int .i64 p.kind)).trans (Only.set _ _ 1 (.int .i64 p.subject))).trans (Only.set _ _ 2 (.int .i64 p.since))).trans (Only.set _ _ 3 (.string p.by_))) (fun e => by have h1 := (HO5.out.lt _ e).1; have h2 := x.is.size; omega)).mono (b' := w.heap.size) (esz HBx.out))
          clear CW gf
          simp only [List.drop_succ_cons, List.drop_zero]
          go_wp2
          refine bodyPost_ret (v := .tuple #[v5, .agg #[.int .i64 (conP l k s by_ now).kind, .int .i64 (conP l k s by_ now).subject, .int .i64 (conP l k s by_ now).since, .string (conP l k s by_ now).by_], .int .i64 (conE l k s by_ now)]) (by rw [HC.out.err, HC.out.prq]; simp [results, Try.results14, go_sem, g0, g1, g2, g3, gz]) rfl ⟨_, rfl, by rw [HC.out.lst]; exact HO9.out, ?_⟩
          exact eset (eset (eset (eset HX9.out (Nat.le_refl _) _ _) (Nat.le_refl _) _ _) (Nat.le_refl _) _ _) (Nat.le_refl _) _ _
end Go.Proofs.Ytcodpbiefidmkaa
