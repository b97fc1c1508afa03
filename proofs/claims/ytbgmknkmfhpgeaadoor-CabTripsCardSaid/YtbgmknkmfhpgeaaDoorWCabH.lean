/- Walks: valid links and authorities. -/
import Derived.Test.YtbgmknkmfhpgeaaDoorWCabG
set_option linter.unusedVariables false
set_option linter.unusedSimpArgs false
set_option maxRecDepth 100000
namespace Go.Proofs.YtbgmknkmfhpgeaaDoor
open Go.ChangeShapes Go.WideShapes Go.ChangeAt Go.RowKit
open Sg
theorem getD_at {l : List Lnk} {j : Nat} {s : Lnk} (h : l[j]? = some s) : l.getD j Lnk.z = s := by rw [List.getD_eq_getElem?_getD, h]; rfl
theorem rd_take {α : Type} {w : World} {A : Option Addr} {k j : Nat} {enc : α → List Value} {xs : List α} (h : Rd w A k enc xs) : Rd w A k enc (xs.take j) := fun h0 => by
  obtain ⟨b, off, e, h1, h2⟩ := h (by simp at h0; omega)
  refine ⟨b, off, e, h1, fun i x hi => h2 i x ?_⟩
  have hlt := (List.getElem?_eq_some_iff.1 hi).1
  rw [List.getElem?_take_of_lt (by simp at hlt; omega)] at hi
  exact hi
set_option maxHeartbeats 4000000 in
theorem find_any (l : List Lnk) (L : Option Addr) (cl : Nat) (f : Nat) (id : Int) (w : World) (hl : l.length ≤ 1000000) (hf : f ≤ l.length) (hr : Rd w L 2 Lkc l) :
    Calls Tryd.prog 87 #[.slice L l.length cl, .int .i64 f, .int .i64 id] w fun e w' => e = .returned (.int .i64 (optI (fndO l f id))) ∧ w = w' := by
  have HR := Lib.hid hr
  clear hr
  go_enter Tryd.func87, Tryd.ntmps87
  go_wp2
  go_loopg [7] (l.length - f) (fun g i wr => ∃ j : Nat, i = .int .i64 j ∧ f ≤ j ∧ j ≤ l.length ∧ g = l.length - j ∧ w = wr ∧ Hid (∀ i, f ≤ i → i < j → (l.getD i Lnk.z).id ≠ id))
  case atStart => exact ⟨f, rfl, Nat.le_refl _, hf, rfl, rfl, fun i h1 h2 => absurd h1 (by omega)⟩
  case round =>
    obtain ⟨j, rfl, hfj, hj, hg, rfl, H⟩ := hrel
    have HG := Lib.hid hg
    clear hg
    by_cases hlt : j < l.length
    · obtain ⟨b, off, s, rfl, hs, hbs, c0, c1⟩ := rd_lnk HR.out (Ext.refl _) hlt
      cases q : (s.id == id)
      · have HN : Hid (∀ i, f ≤ i → i < j + 1 → (l.getD i Lnk.z).id ≠ id) := fun i h1 h2 => by
          by_cases e : i = j
          · subst e; rw [getD_at hs]; simpa using q
          · exact H.out i h1 (by omega)
        clear hs
        go_wp2
        go_roundg (l.length - (j + 1))
        case measure => have := HG.out; omega
        case rel => exact ⟨j + 1, by go_num, by omega, by omega, rfl, rfl, HN.out⟩
      · have HV : Hid (fndO l f id = some j) := fnd_some ⟨hfj, hlt, by rw [getD_at hs]; simpa using q, H.out⟩
        clear hs
        go_wp2
        go_ret
        exact ⟨ret_int (by rw [HV.out]; rfl), rfl⟩
    · have HV : Hid (fndO l f id = none) := fnd_none fun i h1 h2 => H.out i h1 (by omega)
      go_wp2
      go_ret
      exact ⟨ret_int (by rw [HV.out]; rfl), rfl⟩
/-! ### Valid links -/
theorem least_ex {P : Nat → Prop} (n : Nat) (h : P n) : ∃ m, m ≤ n ∧ P m ∧ ∀ i, i < m → ¬ P i := by
  induction n using Nat.strongRecOn with
  | ind n ih =>
    by_cases hx : ∃ i, i < n ∧ P i
    · obtain ⟨i, hi, hp⟩ := hx
      obtain ⟨m, h1, h2, h3⟩ := ih i hi hp
      exact ⟨m, by omega, h2, h3⟩
    · exact ⟨n, Nat.le_refl _, h, fun i hi hp => hx ⟨i, hi, hp⟩⟩
theorem lk_long {k : List Lnk} (h : 24 < k.length) : lkvB k = false := lkvB_false.2 fun hv => by have := hv.1; omega
theorem lk_bad {k : List Lnk} {j : Nat} (hj : j < k.length) (h : ¬ LkTo k j) : lkvB k = false := lkvB_false.2 fun hv => h (hv.2 j hj)
theorem opt_pos {o : Option Nat} : 0 ≤ optI o ↔ ∃ i, o = some i := by
  cases o with
  | none => simp [optI]
  | some i => simp [optI]
theorem lk_step {k : List Lnk} {j : Nat} {s : Lnk} (hs : k[j]? = some s) (hj : j < k.length) (h : ¬ (0 ≤ optI (fndO (k.take j) 0 s.id))) : ∀ i, i < j → (k.getD i Lnk.z).id ≠ (k.getD j Lnk.z).id := fun i hi he => h (by
  rw [getD_at hs] at he
  have hlen : (k.take j).length = j := by simp; omega
  cases hf : fndO (k.take j) 0 s.id with
  | some n => simp [optI]
  | none =>
    exfalso
    unfold fndO at hf
    split at hf
    · cases hf
    · rename_i hn
      obtain ⟨m, hm0, hm2, hm3⟩ := least_ex (P := fun i => (k.getD i Lnk.z).id = s.id) i he
      have hm1 : m < j := by omega
      have tk : ∀ n, n < j → (k.take j).getD n Lnk.z = k.getD n Lnk.z := fun n hn => by
        rw [List.getD_eq_getElem?_getD, List.getD_eq_getElem?_getD, List.getElem?_take_of_lt hn]
      exact hn ⟨m, Nat.zero_le _, by omega, by rw [tk m hm1]; exact hm2, fun n _ hn => by rw [tk n (by omega)]; exact hm3 n hn⟩)
theorem lk_same {k : List Lnk} {j : Nat} {s : Lnk} (hs : k[j]? = some s) (hj : j < k.length) (h : 0 ≤ optI (fndO (k.take j) 0 s.id)) : ¬ LkTo k j := fun hl => by
  obtain ⟨i, hi⟩ := opt_pos.1 h
  obtain ⟨_, h2, h3, _⟩ := fnd_is hi
  have hij : i < j := by simp at h2; omega
  refine hl.2 i hij ?_
  rw [getD_at hs, ← h3, List.getD_eq_getElem?_getD, List.getD_eq_getElem?_getD, List.getElem?_take_of_lt hij]
set_option maxHeartbeats 8000000 in
theorem lvalid_any (k : List Lnk) (L : Option Addr) (cl : Nat) (w : World) (hl : k.length ≤ maxLen) (hcl : k.length ≤ cl) (hr : Rd w L 2 Lkc k) :
    Calls Tryd.prog 153 #[.slice L k.length cl] w fun e w' => e = .returned (.bool (lkvB k)) ∧ Below w.heap.size w w' := by
  unfold maxLen at hl
  have HR := Lib.hid hr
  clear hr
  by_cases h24 : 24 < k.length
  · have HV : Hid (lkvB k = false) := lk_long h24
    have q : decide ((24 : Int) < (k.length : Int)) = true := decide_eq_true (by omega)
    clear h24
    go_enter Tryd.func153, Tryd.ntmps153
    go_wp2
    go_ret
    exact ⟨ret_bool HV.out.symm, Ext.refl _⟩
  · have q : decide ((24 : Int) < (k.length : Int)) = false := decide_eq_false (by omega)
    have H24 := Lib.hid h24
    clear h24
    go_enter Tryd.func153, Tryd.ntmps153
    go_wp2
    go_loopg [10] k.length (fun g i wr => ∃ j : Nat, i = .int .i64 j ∧ j ≤ k.length ∧ g = k.length - j ∧ Hid (Ext w wr ∧ ∀ i, i < j → LkTo k i))
    case atStart => exact ⟨0, rfl, by omega, rfl, Ext.refl _, fun i h => absurd h (by omega)⟩
    case round =>
      obtain ⟨j, rfl, hj, hg, H⟩ := hrel
      have HG := Lib.hid hg
      clear hg
      by_cases hlt : j < k.length
      · obtain ⟨b, off, s, rfl, hs, hbs, c0, c1⟩ := rd_lnk HR.out H.out.1 hlt
        have hlen : (k.take j).length = j := by simp; omega
        obtain ⟨n, hn⟩ : ∃ n, n = optI (fndO (k.take j) 0 s.id) := ⟨_, rfl⟩
        have HFC : Hid (∀ x, Ext wr x → Calls Tryd.prog 87 #[.slice (some ⟨b, off, none⟩) j cl, .int .i64 0, .int .i64 s.id] x fun e w' => e = .returned (.int .i64 n) ∧ Below x.heap.size x w') := fun x hx => by
          have := find_any (k.take j) (some ⟨b, off, none⟩) cl 0 s.id x (by have := H24.out; omega) (Nat.zero_le _) (rd_take (HR.out.keep (etr H.out.1 hx)))
          rw [hlen, ← hn] at this
          exact this.mono fun e w' ⟨h1, h2⟩ => ⟨h1, by rw [← h2]; exact Ext.refl _⟩
        have hjc : (j : Int) ≤ cl := by omega
        have hjn : j ≤ cl := by omega
        by_cases hle : j = 0 ∨ (k.getD (j - 1) Lnk.z).at_ ≤ s.at_
        · by_cases hn0 : 0 ≤ n
          · have HV : Hid (lkvB k = false) := lk_bad hlt (lk_same hs hlt (by rw [← hn]; exact hn0))
            have qn : decide (0 ≤ n) = true := decide_eq_true hn0
            by_cases hj0 : j = 0
            · have q0 : decide ((0 : Int) < j) = false := by simp; omega
              have q0n : decide (0 < j) = false := by simp; omega
              clear hs hn hn0 hle hj0 hlen
              go_wp2
              refine wp_region_after (by kernel_rfl) (by kernel_rfl) ?_
              repeat (first | go_big_quiet_step ((go_at_call 87; exact after_call _ (HFC.out _ (etr (eal (Ext.refl _) _) (After.is _))))))
              refine wpQuiet_nil ?_
              rintro _ ⟨y, rfl⟩
              go_wp2
              go_ret
              exact ⟨ret_bool HV.out.symm, etr (eal H.out.1 _) y.is⟩
            · obtain ⟨b', off', s', hA, hs', _, _, d1⟩ := rd_lnk (k := j - 1) HR.out H.out.1 (by omega)
              injection hA with hA
              injection hA with hA1 hA2
              subst hA1 hA2
              have q0 : decide ((0 : Int) < j) = true := by simp; omega
              have q0n : 0 < j := by omega
              have q0p : (0 : Int) < j := by omega
              have qa : decide (s.at_ < s'.at_) = false := decide_eq_false (by rcases hle with h | h; exact absurd h hj0; rw [getD_at hs'] at h; omega)
              clear hs hs' hn hn0 hle hj0 hlen
              go_wp2
              refine wp_region_after (by kernel_rfl) (by kernel_rfl) ?_
              repeat (first | go_big_quiet_step ((go_at_call 87; exact after_call _ (HFC.out _ (etr (eal (Ext.refl _) _) (After.is _))))))
              refine wpQuiet_nil ?_
              rintro _ ⟨y, rfl⟩
              go_wp2
              go_ret
              exact ⟨ret_bool HV.out.symm, etr (eal H.out.1 _) y.is⟩
          · have HN : Hid (∀ i, i < j + 1 → LkTo k i) := fun i hi => by
              by_cases e : i = j
              · subst e
                exact ⟨by rw [getD_at hs]; exact hle, lk_step hs hlt (by rw [← hn]; exact hn0)⟩
              · exact H.out.2 i (by omega)
            have qn : decide (0 ≤ n) = false := decide_eq_false hn0
            by_cases hj0 : j = 0
            · have q0 : decide ((0 : Int) < j) = false := by simp; omega
              have q0n : decide (0 < j) = false := by simp; omega
              clear hs hn hn0 hle hj0 hlen
              go_wp2
              refine wp_region_after (by kernel_rfl) (by kernel_rfl) ?_
              repeat (first | go_big_quiet_step ((go_at_call 87; exact after_call _ (HFC.out _ (etr (eal (Ext.refl _) _) (After.is _))))))
              refine wpQuiet_nil ?_
              rintro _ ⟨y, rfl⟩
              go_wp2
              go_roundg (k.length - (j + 1))
              case measure => have := HG.out; omega
              case rel => exact ⟨j + 1, by go_num, by omega, rfl, etr (eal H.out.1 _) y.is, HN.out⟩
            · obtain ⟨b', off', s', hA, hs', _, _, d1⟩ := rd_lnk (k := j - 1) HR.out H.out.1 (by omega)
              injection hA with hA
              injection hA with hA1 hA2
              subst hA1 hA2
              have q0 : decide ((0 : Int) < j) = true := by simp; omega
              have q0n : 0 < j := by omega
              have q0p : (0 : Int) < j := by omega
              have qa : decide (s.at_ < s'.at_) = false := decide_eq_false (by rcases hle with h | h; exact absurd h hj0; rw [getD_at hs'] at h; omega)
              clear hs hs' hn hn0 hle hj0 hlen
              go_wp2
              refine wp_region_after (by kernel_rfl) (by kernel_rfl) ?_
              repeat (first | go_big_quiet_step ((go_at_call 87; exact after_call _ (HFC.out _ (etr (eal (Ext.refl _) _) (After.is _))))))
              refine wpQuiet_nil ?_
              rintro _ ⟨y, rfl⟩
              go_wp2
              go_roundg (k.length - (j + 1))
              case measure => have := HG.out; omega
              case rel => exact ⟨j + 1, by go_num, by omega, rfl, etr (eal H.out.1 _) y.is, HN.out⟩
        · have HV : Hid (lkvB k = false) := lk_bad hlt fun h => hle (by have := h.1; rwa [getD_at hs] at this)
          rw [not_or] at hle
          obtain ⟨hj0, hle⟩ := hle
          obtain ⟨b', off', s', hA, hs', _, _, d1⟩ := rd_lnk (k := j - 1) HR.out H.out.1 (by omega)
          injection hA with hA
          injection hA with hA1 hA2
          subst hA1 hA2
          have q0 : decide ((0 : Int) < j) = true := by simp; omega
          have q0n : 0 < j := by omega
          have q0p : (0 : Int) < j := by omega
          have qa : decide (s.at_ < s'.at_) = true := decide_eq_true (by rw [getD_at hs'] at hle; omega)
          clear hs hs' hn hle hj0 hlen
          go_wp2
          refine wp_region_after (by kernel_rfl) (by kernel_rfl) ?_
          repeat (first | go_big_quiet_step ((go_at_call 87; exact after_call _ (HFC.out _ (etr (eal (Ext.refl _) _) (After.is _))))))
          refine wpQuiet_nil ?_
          rintro _ ⟨y, rfl⟩
          go_wp2
          go_ret
          exact ⟨ret_bool HV.out.symm, etr (eal H.out.1 _) y.is⟩
      · have HV : Hid (lkvB k = true) := lkvB_true.2 ⟨by have := H24.out; omega, fun i hi => H.out.2 i (by omega)⟩
        go_wp2
        go_ret
        exact ⟨ret_bool HV.out.symm, H.out.1⟩
theorem last_to {p : List Sgm} {s : Sgm} (h : p[p.length - 1]? = some s) : lastT p = s.to_ := by rw [lastT, List.getD_eq_getElem?_getD, h]; rfl
set_option maxHeartbeats 16000000 in
theorem avalid_any (sq en : Int) (p : List Sgm) (k : List Lnk) (A L : Option Addr) (ca cl : Nat) (w : World) (hp : p.length ≤ maxLen) (hl : k.length ≤ maxLen) (hcl : k.length ≤ cl) (hr : Rd w A 4 Sgc p) (hr2 : Rd w L 2 Lkc k) :
    Calls Tryd.prog 150 #[.agg #[.int .i64 sq, .int .i64 en, .slice A p.length ca, .slice L k.length cl]] w fun e w' => e = .returned (.bool (avalB sq en p k)) ∧ Below w.heap.size w w' := by
  obtain ⟨bv, hbv⟩ : ∃ b, b = validB p := ⟨_, rfl⟩
  obtain ⟨bl, hbl⟩ : ∃ b, b = lkvB k := ⟨_, rfl⟩
  have HVC : Hid (∀ x, Ext w x → Calls Tryd.prog 103 #[.slice A p.length ca] x fun e w' => e = .returned (.bool bv) ∧ Below x.heap.size x w') := fun x hx => by rw [hbv]; exact valid_any A p ca x hp (hr.keep hx)
  have HLC : Hid (∀ x, Ext w x → Calls Tryd.prog 153 #[.slice L k.length cl] x fun e w' => e = .returned (.bool bl) ∧ Below x.heap.size x w') := fun x hx => by rw [hbl]; exact lvalid_any k L cl x hl hcl (hr2.keep hx)
  have HP := Lib.hid hr
  unfold maxLen at hp
  clear hl hcl hr hr2
  obtain ⟨w1, hw⟩ : ∃ w1, w1 = (w.alloc (.cells #[.int .i64 sq, .int .i64 en, .slice A p.length ca, .slice L k.length cl] 29)) := ⟨_, rfl⟩
  have HE0 : Hid (Ext w w1) := by rw [hw]; exact eal (Ext.refl w) _
  have HB : Hid (Own w1 (w.heap.size) [.int .i64 sq, .int .i64 en, .slice A p.length ca, .slice L k.length cl]) := by rw [hw]; exact Own.new (w := w) (cs := #[.int .i64 sq, .int .i64 en, .slice A p.length ca, .slice L k.length cl]) (t := 29) (by simp)
  cases q1 : decide (1 ≤ sq)
  · have HE : Hid (avalB sq en p k = false) := by show _ = _; unfold avalB; rw [q1]; rfl
    clear hbv hbl
    go_enter Tryd.func150, Tryd.ntmps150
    go_upto_region 1 with (fail)
    rw [← hw]
    clear hw
    have a0 := HB.out.cells.2 0 _ rfl
    have a1 := HB.out.cells.2 1 _ rfl
    have a2 := HB.out.cells.2 2 _ rfl
    have a3 := HB.out.cells.2 3 _ rfl
    have az := HB.out.cells.1
    go_wp2
    refine wp_region_after (by kernel_rfl) (by kernel_rfl) ?_
    repeat (first | go_big_quiet_step ((first | (go_at_call 103; exact after_call _ (HVC.out _ (etr HE0.out (After.is _)))) | (go_at_call 153; exact after_call _ (HLC.out _ (etr HE0.out (After.is _)))))))
    refine wpQuiet_nil ?_
    rintro _ ⟨y, rfl⟩
    go_wp2
    go_ret
    exact ⟨ret_bool HE.out.symm, etr HE0.out y.is⟩
  · cases q2 : decide (sq ≤ 1073741824)
    · have HE : Hid (avalB sq en p k = false) := by show _ = _; unfold avalB; rw [q1, q2]; rfl
      clear hbv hbl
      go_enter Tryd.func150, Tryd.ntmps150
      go_upto_region 1 with (fail)
      rw [← hw]
      clear hw
      have a0 := HB.out.cells.2 0 _ rfl
      have a1 := HB.out.cells.2 1 _ rfl
      have a2 := HB.out.cells.2 2 _ rfl
      have a3 := HB.out.cells.2 3 _ rfl
      have az := HB.out.cells.1
      go_wp2
      refine wp_region_after (by kernel_rfl) (by kernel_rfl) ?_
      repeat (first | go_big_quiet_step ((first | (go_at_call 103; exact after_call _ (HVC.out _ (etr HE0.out (After.is _)))) | (go_at_call 153; exact after_call _ (HLC.out _ (etr HE0.out (After.is _)))))))
      refine wpQuiet_nil ?_
      rintro _ ⟨y, rfl⟩
      go_wp2
      go_ret
      exact ⟨ret_bool HE.out.symm, etr HE0.out y.is⟩
    · cases bv
      · have HE : Hid (avalB sq en p k = false) := by show _ = _; unfold avalB; rw [q1, q2, ← hbv]; rfl
        clear hbv hbl
        go_enter Tryd.func150, Tryd.ntmps150
        go_upto_region 1 with (fail)
        rw [← hw]
        clear hw
        have a0 := HB.out.cells.2 0 _ rfl
        have a1 := HB.out.cells.2 1 _ rfl
        have a2 := HB.out.cells.2 2 _ rfl
        have a3 := HB.out.cells.2 3 _ rfl
        have az := HB.out.cells.1
        go_wp2
        refine wp_region_after (by kernel_rfl) (by kernel_rfl) ?_
        repeat (first | go_big_quiet_step ((first | (go_at_call 103; exact after_call _ (HVC.out _ (etr HE0.out (After.is _)))) | (go_at_call 153; exact after_call _ (HLC.out _ (etr HE0.out (After.is _)))))))
        refine wpQuiet_nil ?_
        rintro _ ⟨y, rfl⟩
        go_wp2
        go_ret
        exact ⟨ret_bool HE.out.symm, etr HE0.out y.is⟩
      · by_cases h0 : 0 < p.length
        · obtain ⟨b, off, s, rfl, hs, hbs, c0, c1, c2, c3⟩ := rd_seg (k := p.length - 1) HP.out HE0.out (by omega)
          have hlt := last_to hs
          have q3 : decide (0 < p.length) = true := decide_eq_true h0
          have q3i : decide ((0 : Int) < (p.length : Int)) = true := decide_eq_true (by omega)
          have q3p : (0 : Int) < (p.length : Int) := by omega
          clear hs
          cases q4 : (s.to_ == en)
          · have q4d : decide (lastT p = en) = false := by rw [hlt]; exact q4
            have HE : Hid (avalB sq en p k = false) := by show _ = _; unfold avalB; rw [q1, q2, ← hbv, q3, q4d]; rfl
            clear hbv hbl q4d hlt
            go_enter Tryd.func150, Tryd.ntmps150
            go_upto_region 1 with (fail)
            rw [← hw]
            clear hw
            have a0 := HB.out.cells.2 0 _ rfl
            have a1 := HB.out.cells.2 1 _ rfl
            have a2 := HB.out.cells.2 2 _ rfl
            have a3 := HB.out.cells.2 3 _ rfl
            have az := HB.out.cells.1
            go_wp2
            refine wp_region_after (by kernel_rfl) (by kernel_rfl) ?_
            repeat (first | go_big_quiet_step ((first | (go_at_call 103; exact after_call _ (HVC.out _ (etr HE0.out (After.is _)))) | (go_at_call 153; exact after_call _ (HLC.out _ (etr HE0.out (After.is _)))))))
            refine wpQuiet_nil ?_
            rintro _ ⟨y, rfl⟩
            go_wp2
            go_ret
            exact ⟨ret_bool HE.out.symm, etr HE0.out y.is⟩
          · have q4d : decide (lastT p = en) = true := by rw [hlt]; exact q4
            have HE : Hid (avalB sq en p k = bl) := by show _ = _; unfold avalB; rw [q1, q2, ← hbv, q3, q4d, ← hbl]; rfl
            clear hbv hbl q4d hlt
            go_enter Tryd.func150, Tryd.ntmps150
            go_upto_region 1 with (fail)
            rw [← hw]
            clear hw
            have a0 := HB.out.cells.2 0 _ rfl
            have a1 := HB.out.cells.2 1 _ rfl
            have a2 := HB.out.cells.2 2 _ rfl
            have a3 := HB.out.cells.2 3 _ rfl
            have az := HB.out.cells.1
            go_wp2
            refine wp_region_after (by kernel_rfl) (by kernel_rfl) ?_
            repeat (first | go_big_quiet_step ((first | (go_at_call 103; exact after_call _ (HVC.out _ (etr HE0.out (After.is _)))) | (go_at_call 153; exact after_call _ (HLC.out _ (etr HE0.out (After.is _)))))))
            refine wpQuiet_nil ?_
            rintro _ ⟨y, rfl⟩
            go_wp2
            go_ret
            exact ⟨ret_bool HE.out.symm, etr HE0.out y.is⟩
        · have q3 : decide (0 < p.length) = false := decide_eq_false h0
          have q3i : decide ((0 : Int) < (p.length : Int)) = false := decide_eq_false (by omega)
          have HE : Hid (avalB sq en p k = false) := by show _ = _; unfold avalB; rw [q1, q2, ← hbv, q3]; rfl
          clear hbv hbl
          go_enter Tryd.func150, Tryd.ntmps150
          go_upto_region 1 with (fail)
          rw [← hw]
          clear hw
          have a0 := HB.out.cells.2 0 _ rfl
          have a1 := HB.out.cells.2 1 _ rfl
          have a2 := HB.out.cells.2 2 _ rfl
          have a3 := HB.out.cells.2 3 _ rfl
          have az := HB.out.cells.1
          go_wp2
          refine wp_region_after (by kernel_rfl) (by kernel_rfl) ?_
          repeat (first | go_big_quiet_step ((first | (go_at_call 103; exact after_call _ (HVC.out _ (etr HE0.out (After.is _)))) | (go_at_call 153; exact after_call _ (HLC.out _ (etr HE0.out (After.is _)))))))
          refine wpQuiet_nil ?_
          rintro _ ⟨y, rfl⟩
          go_wp2
          go_ret
          exact ⟨ret_bool HE.out.symm, etr HE0.out y.is⟩
end Go.Proofs.YtbgmknkmfhpgeaaDoor
