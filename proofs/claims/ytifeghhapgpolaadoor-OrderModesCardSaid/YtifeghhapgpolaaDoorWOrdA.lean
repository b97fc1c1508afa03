/- Walks of package order and of its reference: Same, Event, InForce, Expire. -/
import Derived.Test.YtifeghhapgpolaaDoorTOrder
import Derived.WalkMore
set_option linter.unusedVariables false
set_option linter.unusedSimpArgs false
namespace Go.Proofs.YtifeghhapgpolaaDoor
open Go.ChangeShapes Go.WideShapes Go.ChangeAt Go.RowKit
open Sg

theorem inf_Od : (Tryd.prog.info? 34).map (fun i => (i.zero, i.size, i.bytes)) = some (some (.agg #[.int .i64 0, .int .i64 0, .int .i64 0]), 3, 24) := by kernel_rfl
open Classical in
noncomputable def sml_od (a b : List Odr) : Bool := decide (a = b)
theorem sml_od_true {a b : List Odr} : sml_od a b = true ↔ a = b := by simp [sml_od]
theorem sml_od_false {a b : List Odr} : sml_od a b = false ↔ a ≠ b := by simp [sml_od]
theorem dif_od {s s' : Odr} (h : s ≠ s') : ((s.train == s'.train) = false) ∨ ((s.train == s'.train) = true ∧ (s.kind == s'.kind) = false) ∨ ((s.train == s'.train) = true ∧ (s.kind == s'.kind) = true ∧ (s.until_ == s'.until_) = false) := by
  refine Classical.byContradiction fun hn => h ?_
  simp only [not_or, not_and, Bool.not_eq_false] at hn
  obtain ⟨e0, e1, e2⟩ := hn
  have f0 := e0
  have f1 := e1 f0
  have f2 := e2 f0 f1
  exact Odr.eq (eq_of_beq f0) (eq_of_beq f1) (eq_of_beq f2)
set_option maxHeartbeats 4000000 in
theorem same_od (A B : Option Addr) (p q : List Odr) (c d : Nat) (w : World) (hm : p.length ≤ maxLen) (hm2 : q.length ≤ maxLen) (hr : Rd w A 3 Oc p) (hr2 : Rd w B 3 Oc q) :
    Calls Tryd.prog 10 #[.slice A p.length c, .slice B q.length d] w fun e w' => e = .returned (.bool (sml_od p q)) ∧ Below w.heap.size w w' := by
  unfold maxLen at hm hm2
  have HR := Lib.hid hr
  have HR2 := Lib.hid hr2
  clear hr hr2
  by_cases hl : p.length = q.length
  · have hl' : ((p.length : Int) != (q.length : Int)) = false := by simp [hl]
    have HL := Lib.hid hl
    clear hl
    go_enter Tryd.func10, Tryd.ntmps10
    go_wp2
    go_loopg [5] p.length (fun g i wr => ∃ k : Nat, i = .int .i64 k ∧ k ≤ p.length ∧ g = p.length - k ∧ Hid (Below w.heap.size w wr ∧ ∀ j : Nat, j < k → p[j]? = q[j]?))
    case atStart => exact ⟨0, rfl, by omega, rfl, Below.refl _ _, fun j h => absurd h (by omega)⟩
    case round =>
      obtain ⟨k, rfl, hk, hg, H⟩ := hrel
      have HG := Lib.hid hg
      clear hg
      by_cases hlt : k < p.length
      · obtain ⟨b, off, s, rfl, hs, hbs, c0, c1, c2⟩ := rd_od HR.out H.out.1 hlt
        have hlt2 : k < q.length := by have := HL.out; omega
        obtain ⟨b', off', s', rfl, hs', hbs', d0, d1, d2⟩ := rd_od HR2.out H.out.1 hlt2
        by_cases he : s = s'
        · subst he
          have HN : Hid (∀ j : Nat, j < k + 1 → p[j]? = q[j]?) := fun j hj => by
            by_cases e : j = k
            · subst e; rw [hs, hs']
            · exact H.out.2 j (by omega)
          clear hs hs'
          go_wp2
          refine wp_region_after (by kernel_rfl) (by kernel_rfl) ?_
          repeat (first | go_big_quiet_step (fail))
          refine wpQuiet_nil ?_
          rintro _ ⟨y, rfl⟩
          go_wp2
          go_roundg (p.length - (k + 1))
          case measure => have := HG.out; omega
          case rel => exact ⟨k + 1, by go_num, by omega, rfl, H.out.1.trans (y.is.mono H.out.1.size), HN.out⟩
        · have HV := Lib.hid (sml_od_false.2 (show p ≠ q from fun e => he (by rw [e, hs'] at hs; cases hs; rfl)))
          have key := dif_od he
          clear hs hs' he
          rcases key with q0 | ⟨q0, q1⟩ | ⟨q0, q1, q2⟩
          all_goals go_wp2
          all_goals refine wp_region_after (by kernel_rfl) (by kernel_rfl) ?_
          all_goals repeat (first | go_big_quiet_step (fail))
          all_goals refine wpQuiet_nil ?_
          all_goals rintro _ ⟨y, rfl⟩
          all_goals go_wp2
          all_goals go_ret
          all_goals exact ⟨ret_bool HV.out.symm, H.out.1.trans (y.is.mono H.out.1.size)⟩
      · have HV := Lib.hid (sml_od_true.2 (show p = q from List.ext_getElem? fun j => by
          by_cases hj : j < k
          · exact H.out.2 j hj
          · rw [List.getElem?_eq_none (by omega), List.getElem?_eq_none (by have := HL.out; omega)]))
        go_wp2
        go_ret
        exact ⟨ret_bool HV.out.symm, H.out.1⟩
  · have hl' : ((p.length : Int) != (q.length : Int)) = true := by simp; omega
    have HV := Lib.hid (sml_od_false.2 (show p ≠ q from fun e => hl (by rw [e])))
    clear hl
    go_enter Tryd.func10, Tryd.ntmps10
    go_wp2
    go_ret
    exact ⟨ret_bool HV.out.symm, Below.refl _ _⟩
theorem event_gen (F : FuncId) (k : Int) (w : World) (hF : F = 4) : Calls Tryd.prog F #[.int .i64 k] w fun e w' => e = .returned (.int .i64 (evV k)) ∧ w = w' := by
  by_cases h5 : k = 5
  · subst h5
    subst hF
    · go_enter Tryd.func4, Tryd.ntmps4
      go_wp2
      go_ret
      exact ⟨rfl, rfl⟩
  by_cases h6 : k = 6
  · subst h6
    subst hF
    · go_enter Tryd.func4, Tryd.ntmps4
      go_wp2
      go_ret
      exact ⟨rfl, rfl⟩
  by_cases h7 : k = 7
  · subst h7
    subst hF
    · go_enter Tryd.func4, Tryd.ntmps4
      go_wp2
      go_ret
      exact ⟨rfl, rfl⟩
  have HE : Hid (evV k = 0) := evV_zero.2 ⟨h5, h6, h7⟩
  have q5 : (k == 5) = false := by simpa using h5
  have q6 : (k == 6) = false := by simpa using h6
  have q7 : (k == 7) = false := by simpa using h7
  clear h5 h6 h7
  subst hF
  · go_enter Tryd.func4, Tryd.ntmps4
    go_wp2
    go_ret
    exact ⟨ret_int HE.out.symm, rfl⟩
theorem event_any (k : Int) (w : World) : Calls Tryd.prog 4 #[.int .i64 k] w fun e w' => e = .returned (.int .i64 (evV k)) ∧ w = w' := event_gen _ k w rfl
theorem on_key {t k now : Int} {o : Odr} (h : onR t k now o = false) : ((o.train == t) = false) ∨ ((o.train == t) = true ∧ (o.kind == k) = false) ∨ ((o.train == t) = true ∧ (o.kind == k) = true ∧ decide (now ≤ o.until_) = false) := by
  unfold onR hitR at h
  cases h1 : (o.train == t)
  · exact .inl rfl
  cases h2 : (o.kind == k)
  · exact .inr (.inl ⟨rfl, rfl⟩)
  rw [h1, h2] at h
  exact .inr (.inr ⟨rfl, rfl, by simpa using h⟩)
theorem on_yes {t k now : Int} {o : Odr} (h : onR t k now o = true) : (o.train == t) = true ∧ (o.kind == k) = true ∧ decide (now ≤ o.until_) = true := by
  unfold onR hitR at h
  simp only [Bool.and_eq_true] at h
  exact ⟨h.1.1, h.1.2, h.2⟩
set_option maxHeartbeats 4000000 in
theorem inforce_any (A : Option Addr) (l : List Odr) (c : Nat) (t k now : Int) (w : World) (hm : l.length ≤ maxLen) (hr : Rd w A 3 Oc l) :
    Calls Tryd.prog 11 #[.slice A l.length c, .int .i64 t, .int .i64 k, .int .i64 now] w fun e w' => e = .returned (.bool (inV l t k now)) ∧ Below w.heap.size w w' := by
  unfold maxLen at hm
  have HR := Lib.hid hr
  clear hr
  go_enter Tryd.func11, Tryd.ntmps11
  go_wp2
  go_step3
  go_wp2
  go_step3
  go_wp2
  go_loopg [9, 14] l.length (fun g fo i wr => ∃ j : Nat, fo = .bool false ∧ i = .int .i64 j ∧ j ≤ l.length ∧ g = l.length - j ∧ Hid (Ext w wr ∧ ∀ (i : Nat) o, i < j → l[i]? = some o → onR t k now o = false))
  case atStart => exact ⟨0, rfl, rfl, by omega, rfl, Ext.refl _, fun i o h => absurd h (by omega)⟩
  case round =>
    obtain ⟨j, rfl, rfl, hj, hg, H⟩ := hrel
    have HG := Lib.hid hg
    clear hg
    by_cases hlt : j < l.length
    · obtain ⟨b, off, p, rfl, hs, hbs, c0, c1, c2⟩ := rd_od HR.out H.out.1 hlt
      cases hh : onR t k now p
      · have HN : Hid (∀ (i : Nat) o, i < j + 1 → l[i]? = some o → onR t k now o = false) := fun i o hi ho => by
          by_cases e : i = j
          · subst e; rw [hs] at ho; cases ho; exact hh
          · exact H.out.2 i o (by omega) ho
        have key := on_key hh
        clear hs hh
        rcases key with q1 | ⟨q1, q2⟩ | ⟨q1, q2, q3⟩
        · have n1 : (p.train != t) = true := by rw [bne, q1]; rfl
          go_wp2
          go_roundg (l.length - (j + 1))
          case measure => have := HG.out; omega
          case rel => exact ⟨j + 1, rfl, by go_num, by omega, rfl, eal H.out.1 _, HN.out⟩
        all_goals have n1 : (p.train != t) = false := by rw [bne, q1]; rfl
        · have n2 : (p.kind != k) = true := by rw [bne, q2]; rfl
          go_wp2
          go_roundg (l.length - (j + 1))
          case measure => have := HG.out; omega
          case rel => exact ⟨j + 1, rfl, by go_num, by omega, rfl, eal H.out.1 _, HN.out⟩
        · have n2 : (p.kind != k) = false := by rw [bne, q2]; rfl
          go_wp2
          go_roundg (l.length - (j + 1))
          case measure => have := HG.out; omega
          case rel => exact ⟨j + 1, rfl, by go_num, by omega, rfl, eal H.out.1 _, HN.out⟩
      · have HE : Hid (inV l t k now = true) := inV_true hs hh
        obtain ⟨q1, q2, q3⟩ := on_yes hh
        have n1 : (p.train != t) = false := by rw [bne, q1]; rfl
        have n2 : (p.kind != k) = false := by rw [bne, q2]; rfl
        clear hs hh
        go_wp2
        try rw [Exit.noGoto_ret]
        go_ret
        exact ⟨ret_bool HE.out.symm, eal H.out.1 _⟩
    · have HE : Hid (inV l t k now = false) := inV_false fun i o ho => H.out.2 i o (by have := (List.getElem?_eq_some_iff.1 ho).1; omega) ho
      go_wp2
      try rw [Exit.noGoto_ret]
      go_ret
      exact ⟨ret_bool HE.out.symm, H.out.1⟩
set_option maxHeartbeats 8000000 in
theorem expire_any (A : Option Addr) (l : List Odr) (c : Nat) (now : Int) (w : World) (hm : l.length ≤ 400000) (hr : Rd w A 3 Oc l) :
    Calls Tryd.prog 12 #[.slice A l.length c, .int .i64 now] w fun e w' => ∃ v, e = .returned v ∧ OwnL w' w.heap.size 34 3 Oc v (expR l now) ∧ Below w.heap.size w w' := by
  have HR := Lib.hid hr
  clear hr
  obtain ⟨i0, hi, hz0, hz1, hz2⟩ := info_parts inf_Od
  go_enter Tryd.func12, Tryd.ntmps12
  go_wp2
  go_loopg [5, 10] l.length (fun g u i wr => ∃ k : Nat, i = .int .i64 k ∧ k ≤ l.length ∧ g = l.length - k ∧ Hid (Ext w wr ∧ OwnL wr w.heap.size 34 3 Oc u (expR (l.take k) now)))
  case atStart => exact ⟨0, rfl, by omega, rfl, Ext.refl _, OwnL.nil⟩
  case round =>
    obtain ⟨k, rfl, hk, hg, H⟩ := hrel
    have HG := Lib.hid hg
    clear hg
    by_cases hlt : k < l.length
    · obtain ⟨b, off, p, rfl, hs, hbs, c0, c1, c2⟩ := rd_od HR.out H.out.1 hlt
      have HT := Lib.hid (expR_take now hs)
      have hsz := H.out.1.size
      have hlen : (expR (l.take k) now).length ≤ k := by have := expR_len (l.take k) now; simp at this; omega
      clear hs
      cases hd : decide (now ≤ p.until_)
      · have HQ : Hid (expR (l.take (k + 1)) now = expR (l.take k) now) := by show _ = _; rw [HT.out]; unfold keepR; rw [hd]; simp
        go_wp2
        go_roundg (l.length - (k + 1))
        case measure => have := HG.out; omega
        case rel => exact ⟨k + 1, by go_num, by omega, rfl, eal H.out.1 _, by rw [HQ.out]; exact H.out.2.keep (eal (Ext.refl _) _)⟩
      · have HQ : Hid (expR (l.take (k + 1)) now = expR (l.take k) now ++ [p]) := by show _ = _; rw [HT.out]; unfold keepR; rw [hd]; rfl
        go_wp2_with (at_builtin
                     refine wp_appE (u := w) Oc_len Oc_one Tryd.underlying29 hi hz0 hz1 hz2 rfl (by decide) rfl rfl rfl ((H.out.2.keep (eal (Ext.refl _) _)).keep (eal (Ext.refl _) _)) (eal (eal H.out.1 _) _) p (wr.heap.size + 1) (by simp [go_sem]) (by exact CellsAt.new (by simp)) (by omega) (by unfold maxLen; omega) ?_
                     intro v1 w1 H1)
        go_roundg (l.length - (k + 1))
        case measure => have := HG.out; omega
        case rel => exact ⟨k + 1, by go_num, by omega, rfl, H1.out.2.1, by rw [HQ.out]; exact H1.out.1⟩
    · have HQ : Hid (expR (l.take k) now = expR l now) := by show _ = _; rw [List.take_of_length_le (by omega)]
      go_wp2
      go_ret
      exact ⟨_, rfl, by rw [← HQ.out]; exact H.out.2, H.out.1⟩
end Go.Proofs.YtifeghhapgpolaaDoor
