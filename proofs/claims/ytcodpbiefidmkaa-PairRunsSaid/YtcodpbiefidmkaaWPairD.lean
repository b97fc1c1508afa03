/- Walks of package pair and of its reference: the reference's Ask, Expire, without. -/
import Derived.Test.YtcodpbiefidmkaaWPairC
set_option linter.unusedVariables false
set_option linter.unusedSimpArgs false
namespace Go.Proofs.Ytcodpbiefidmkaa
open Go.ChangeShapes Go.WideShapes Go.ChangeAt Go.RowKit
open Sg

set_option maxHeartbeats 8000000 in
theorem rask_any (A : Option Addr) (l : List Prq) (c : Nat) (p : Prq) (w : World) (hm : l.length ≤ 400000) (hp : PrqI p) (hr : Rd w A 4 Prc l) :
    Calls Try.prog 11 #[.slice A l.length c, .agg #[.int .i64 p.kind, .int .i64 p.subject, .int .i64 p.since, .string p.by_]] w fun e w' => ∃ v, e = .returned (.tuple #[v, .int .i64 (askE l p)]) ∧ OwnL w' w.heap.size 24 4 Prc v (askL l p) ∧ Below w.heap.size w w' := by
  have HM : Hid (l.length ≤ maxLen) := by show _ ≤ _; unfold maxLen; omega
  have HR := Lib.hid hr
  have HP := Lib.hid hp
  clear hr hp
  obtain ⟨i0, hi, hz0, hz1, hz2⟩ := info_parts inf_Pr
  by_cases ho : okAsk p
  · obtain ⟨q1, q2, q3, q4, q5⟩ := ask_yes ho
    have HO := Lib.hid ho
    cases hx : idxO p.kind p.subject l with
    | some i =>
      obtain ⟨e1, e2⟩ := ask_dup (l := l) ho hx
      have E1 := Lib.hid e1
      have E2 := Lib.hid e2
      have HX : Hid (idxV p.kind p.subject l = i) := idxV_some hx
      clear e1 e2 hx ho
      go_enter Try.func11, Try.ntmps11
      go_wp2_with (go_at_call 21; refine (rname_any p.by_ _ HP.out.2.2.2).mono ?_; rintro e w' ⟨rfl, rfl⟩)
      refine (to_after (find_any A l c p.kind p.subject _ HM.out (HR.out.keep (eal (Ext.refl _) _)))).mono ?_
      rintro e w' ⟨y2, rfl, rfl⟩
      rw [HX.out]
      have hi0 : (0 : Int) ≤ (i : Int) := by omega
      go_wp2_with fail
      go_ret2
      exact ⟨_, ret_vi E1.out.symm, by rw [E2.out]; exact OwnL.nil, etr (eal (Ext.refl _) _) y2.is⟩
    | none =>
      have HX : Hid (idxV p.kind p.subject l = -1) := idxV_none hx
      by_cases hl : 16 ≤ l.length
      · obtain ⟨e1, e2⟩ := ask_full ho hx hl
        have E1 := Lib.hid e1
        have E2 := Lib.hid e2
        have hl' : (16 : Int) ≤ (l.length : Int) := by omega
        clear e1 e2 hx ho
        go_enter Try.func11, Try.ntmps11
        go_wp2_with (go_at_call 21; refine (rname_any p.by_ _ HP.out.2.2.2).mono ?_; rintro e w' ⟨rfl, rfl⟩)
        refine (to_after (find_any A l c p.kind p.subject _ HM.out (HR.out.keep (eal (Ext.refl _) _)))).mono ?_
        rintro e w' ⟨y2, rfl, rfl⟩
        rw [HX.out]
        go_wp2_with fail
        go_ret2
        exact ⟨_, ret_vi E1.out.symm, by rw [E2.out]; exact OwnL.nil, etr (eal (Ext.refl _) _) y2.is⟩
      · obtain ⟨e1, e2⟩ := ask_ok ho hx hl
        have E1 := Lib.hid e1
        have E2 := Lib.hid e2
        have hl' : decide ((16 : Int) ≤ (l.length : Int)) = false := decide_eq_false (by omega)
        clear e1 e2 hx ho
        go_enter Try.func11, Try.ntmps11
        go_wp2_with (go_at_call 21; refine (rname_any p.by_ _ HP.out.2.2.2).mono ?_; rintro e w' ⟨rfl, rfl⟩)
        refine (to_after (find_any A l c p.kind p.subject _ HM.out (HR.out.keep (eal (Ext.refl _) _)))).mono ?_
        rintro e w' ⟨y2, rfl, rfl⟩
        rw [HX.out]
        have z2 : w.heap.size < y2.val.heap.size := by have := y2.is.size; simp at this; omega
        have HB2 := Lib.hid (etr (eal (Ext.refl w) _) y2.is)
        have HN : Hid (OwnL (y2.val.alloc (.cells #[] 24)) w.heap.size 24 4 Prc (.slice (some ⟨y2.val.heap.size, 0, none⟩) 0 0) ([] : List Prq)) := World.ownsRow_lit y2.val #[] 0 (by omega) (by simp) (by simp)
        go_wp2_with (first
          | (at_builtin
             refine wp_appL (u := w) Prc_len Prc_one Try.underlying22 hi hz0 hz1 hz2 rfl (by decide) rfl rfl rfl HN.out (eal HB2.out _) l A c (by simp [go_sem]) (HR.out.keep (eal HB2.out _)) (by simp; omega) (by simp; unfold maxLen; omega) ?_
             intro v4 w4 H4
             rw [List.nil_append] at H4
             have hc4 : (w.alloc (.cells #[.int .i64 p.kind, .int .i64 p.subject, .int .i64 p.since, .string p.by_] 24)).heap.size ≤ w.heap.size + 1 := by simp
             have CB : CellsAt w4 w.heap.size (Prc p) := ((((CellsAt.new (w := w) (cs := (Prc p).toArray) (t := 24) rfl).keep y2.is).keep (eal (Ext.refl _) _))).grown H4.out.2.2.1 (fun e => by have e2 : y2.val.heap.size = w.heap.size := Option.some.inj e; omega)
             have cb := CB.1
             have d0 := CB.2 0 _ rfl
             have d1 := CB.2 1 _ rfl
             have d2 := CB.2 2 _ rfl
             have d3 := CB.2 3 _ rfl
             clear CB hc4)
          | (at_builtin
             refine wp_appE (u := w) Prc_len Prc_one Try.underlying22 hi hz0 hz1 hz2 rfl (by decide) rfl rfl rfl (H4.out.1.keep (eal (Ext.refl _) _)) (eal H4.out.2.1 _) p w4.heap.size (by simp [go_sem]) (by exact CellsAt.new rfl) (by omega) (by unfold maxLen; omega) ?_
             intro v1 w1 H1))
        go_ret2
        exact ⟨_, ret_vi E1.out.symm, by rw [E2.out]; exact H1.out.1, H1.out.2.1⟩
  · obtain ⟨e1, e2⟩ := @ask_bad l p ho
    have E1 := Lib.hid e1
    have E2 := Lib.hid e2
    have key := ask_key ho
    clear e1 e2 ho
    rcases key with k1 | ⟨k1, k2⟩ | ⟨k1, k2, k3⟩ | ⟨k1, k2, k3, k4⟩ | ⟨k1, k2, k3, k4, k5⟩
    all_goals
      go_enter Try.func11, Try.ntmps11
      go_wp2_with (go_at_call 21; refine (rname_any p.by_ _ HP.out.2.2.2).mono ?_; rintro e w' ⟨rfl, rfl⟩)
      go_ret2
      exact ⟨_, ret_vi E1.out.symm, by rw [E2.out]; exact OwnL.nil, eal (Ext.refl _) _⟩
set_option maxHeartbeats 8000000 in
theorem expire_any (A : Option Addr) (l : List Prq) (c : Nat) (now : Int) (w : World) (hm : l.length ≤ 400000) (hn : I64 now) (hI : ∀ (i : Nat) x, l[i]? = some x → PrqI x) (hr : Rd w A 4 Prc l) :
    Calls Try.prog 15 #[.slice A l.length c, .int .i64 now] w fun e w' => ∃ v, e = .returned v ∧ OwnL w' w.heap.size 24 4 Prc v (expL l now) ∧ Below w.heap.size w w' := by
  have HR := Lib.hid hr
  have HI := Lib.hid hI
  have HN := Lib.hid hn
  clear hr hI hn
  obtain ⟨i0, hi, hz0, hz1, hz2⟩ := info_parts inf_Pr
  go_enter Try.func15, Try.ntmps15
  go_wp2
  go_loopg [5, 10] l.length (fun g u i wr => ∃ k : Nat, i = .int .i64 k ∧ k ≤ l.length ∧ g = l.length - k ∧ Hid (Ext w wr ∧ OwnL wr w.heap.size 24 4 Prc u (expL (l.take k) now)))
  case atStart => exact ⟨0, rfl, by omega, rfl, Ext.refl _, OwnL.nil⟩
  case round =>
    obtain ⟨k, rfl, hk, hg, H⟩ := hrel
    have HG := Lib.hid hg
    clear hg
    by_cases hlt : k < l.length
    · obtain ⟨b, off, p, rfl, hs, hbs, c0, c1, c2, c3⟩ := rd_pr HR.out H.out.1 hlt
      have HT := Lib.hid (expL_take now hs)
      have HPI := Lib.hid (HI.out k p hs)
      have hsz := H.out.1.size
      have hlen : (expL (l.take k) now).length ≤ k := by have := expL_len (l.take k) now; simp at this; omega
      clear hs
      cases hd : dueB p now
      · have HQ : Hid (expL (l.take (k + 1)) now = expL (l.take k) now ++ [p]) := by show _ = _; rw [HT.out, hd]; rfl
        go_wp2_with (first
          | (go_at_call 23; refine (to_after (due_any p now _ HPI.out.2.2.1 HN.out)).mono ?_; rintro e w' ⟨y, rfl, rfl⟩
             have CY := (CellsAt.new (w := wr) (cs := (Prc p).toArray) (t := 24) rfl).keep y.is
             have ys := CY.1
             have y0 := CY.2 0 _ rfl
             have y1 := CY.2 1 _ rfl
             have y2 := CY.2 2 _ rfl
             have y3 := CY.2 3 _ rfl
             clear CY)
          | (at_builtin
             refine wp_appE (u := w) Prc_len Prc_one Try.underlying22 hi hz0 hz1 hz2 rfl (by decide) rfl rfl rfl (((H.out.2.keep (eal (Ext.refl _) _)).keep y.is).keep (eal (Ext.refl _) _)) (eal (etr (eal H.out.1 _) y.is) _) p y.val.heap.size (by simp [go_sem]) (by exact CellsAt.new rfl) (by omega) (by unfold maxLen; omega) ?_
             intro v1 w1 H1))
        go_roundg (l.length - (k + 1))
        case measure => have := HG.out; omega
        case rel => exact ⟨k + 1, by go_num, by omega, rfl, H1.out.2.1, by rw [HQ.out]; exact H1.out.1⟩
      · have HQ : Hid (expL (l.take (k + 1)) now = expL (l.take k) now) := by show _ = _; rw [HT.out, hd]; simp
        go_wp2_with (go_at_call 23; refine (to_after (due_any p now _ HPI.out.2.2.1 HN.out)).mono ?_; rintro e w' ⟨y, rfl, rfl⟩)
        go_roundg (l.length - (k + 1))
        case measure => have := HG.out; omega
        case rel => exact ⟨k + 1, by go_num, by omega, rfl, etr (eal H.out.1 _) y.is, by rw [HQ.out]; exact (H.out.2.keep (eal (Ext.refl _) _)).keep y.is⟩
    · have HQ : Hid (expL (l.take k) now = expL l now) := by show _ = _; rw [List.take_of_length_le (by omega)]
      go_wp2
      go_ret
      exact ⟨_, rfl, by rw [← HQ.out]; exact H.out.2, H.out.1⟩
set_option maxHeartbeats 8000000 in
theorem rexpire_any (A : Option Addr) (l : List Prq) (c : Nat) (now : Int) (w : World) (hm : l.length ≤ 400000) (hn : I64 now) (hI : ∀ (i : Nat) x, l[i]? = some x → PrqI x) (hr : Rd w A 4 Prc l) :
    Calls Try.prog 16 #[.slice A l.length c, .int .i64 now] w fun e w' => ∃ v, e = .returned v ∧ OwnL w' w.heap.size 24 4 Prc v (expL l now) ∧ Below w.heap.size w w' := by
  have HR := Lib.hid hr
  have HI := Lib.hid hI
  have HN := Lib.hid hn
  clear hr hI hn
  obtain ⟨i0, hi, hz0, hz1, hz2⟩ := info_parts inf_Pr
  go_enter Try.func16, Try.ntmps16
  go_wp2
  go_loopg [5, 6] l.length (fun g u i wr => ∃ k : Nat, i = .int .i64 k ∧ k ≤ l.length ∧ g = l.length - k ∧ Hid (Ext w wr ∧ OwnL wr w.heap.size 24 4 Prc u (expL (l.take k) now)))
  case atStart => exact ⟨0, rfl, by omega, rfl, Ext.refl _, OwnL.nil⟩
  case round =>
    obtain ⟨k, rfl, hk, hg, H⟩ := hrel
    have HG := Lib.hid hg
    clear hg
    by_cases hlt : k < l.length
    · obtain ⟨b, off, p, rfl, hs, hbs, c0, c1, c2, c3⟩ := rd_pr HR.out H.out.1 hlt
      have HT := Lib.hid (expL_take now hs)
      have HPI := Lib.hid (HI.out k p hs)
      have hsz := H.out.1.size
      have hlen : (expL (l.take k) now).length ≤ k := by have := expL_len (l.take k) now; simp at this; omega
      clear hs
      cases hd : dueB p now
      · have HQ : Hid (expL (l.take (k + 1)) now = expL (l.take k) now ++ [p]) := by show _ = _; rw [HT.out, hd]; rfl
        go_wp2_with (first
          | (go_at_call 25; refine (to_after (rdue_any p now _ HPI.out.2.2.1 HN.out)).mono ?_; rintro e w' ⟨y, rfl, rfl⟩)
          | (at_builtin
             refine wp_appE (u := w) Prc_len Prc_one Try.underlying22 hi hz0 hz1 hz2 rfl (by decide) rfl rfl rfl ((H.out.2.keep y.is).keep (eal (Ext.refl _) _)) (eal (etr H.out.1 y.is) _) p y.val.heap.size (by simp [go_sem]) (by exact CellsAt.new rfl) (by omega) (by unfold maxLen; omega) ?_
             intro v1 w1 H1))
        go_roundg (l.length - (k + 1))
        case measure => have := HG.out; omega
        case rel => exact ⟨k + 1, by go_num, by omega, rfl, H1.out.2.1, by rw [HQ.out]; exact H1.out.1⟩
      · have HQ : Hid (expL (l.take (k + 1)) now = expL (l.take k) now) := by show _ = _; rw [HT.out, hd]; simp
        go_wp2_with (go_at_call 25; refine (to_after (rdue_any p now _ HPI.out.2.2.1 HN.out)).mono ?_; rintro e w' ⟨y, rfl, rfl⟩)
        go_roundg (l.length - (k + 1))
        case measure => have := HG.out; omega
        case rel => exact ⟨k + 1, by go_num, by omega, rfl, etr H.out.1 y.is, by rw [HQ.out]; exact H.out.2.keep y.is⟩
    · have HQ : Hid (expL (l.take k) now = expL l now) := by show _ = _; rw [List.take_of_length_le (by omega)]
      go_wp2
      go_ret
      exact ⟨_, rfl, by rw [← HQ.out]; exact H.out.2, H.out.1⟩
end Go.Proofs.Ytcodpbiefidmkaa
