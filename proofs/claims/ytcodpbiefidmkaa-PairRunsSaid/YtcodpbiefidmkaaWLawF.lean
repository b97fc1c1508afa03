/- Walks of chapter 41's laws: the examples, the guard. -/
import Derived.Test.YtcodpbiefidmkaaWPairF
set_option linter.unusedVariables false
set_option linter.unusedSimpArgs false
namespace Go.Proofs.Ytcodpbiefidmkaa
open Go.ChangeShapes Go.WideShapes Go.ChangeAt Go.RowKit
open Sg

abbrev ann : ByteArray := ⟨#[97, 110, 110]⟩
abbrev bob : ByteArray := ⟨#[98, 111, 98]⟩
def pA : Prq := ⟨1, 2, 10, ann⟩
def pB : Prq := ⟨1, 2, 11, bob⟩
theorem ex_ask : askE [] pA = 0 ∧ askL [] pA = [pA] := ask_ok (by decide +kernel) rfl (by decide)
theorem ex_idx : idxO 1 2 [pA] = some 0 := by decide +kernel
theorem ex_dup : askE [pA] pB = 8 ∧ askL [pA] pB = [] := ask_dup (i := 0) (by decide +kernel) ex_idx
theorem ex_con : ConIs [pA] 1 2 bob 20 0 [] pA := con_ok (i := 0) ex_idx rfl (by decide) (by decide +kernel) (by decide)
theorem ex_late : ConIs [pA] 1 2 bob 21 15 [] Prq.z := con_due (i := 0) ex_idx rfl (by decide)
theorem ex_self : ConIs [pA] 1 2 ann 20 13 [] Prq.z := con_same (i := 0) ex_idx rfl (by decide) (by decide +kernel) rfl
theorem ex_exp : expL [pA] 20 = [pA] ∧ expL [pA] 21 = [] := ⟨rfl, rfl⟩
theorem pA_I : PrqI pA := ⟨by unfold I64; decide, by unfold I64; decide, by unfold I64; decide, by show 3 ≤ _; unfold maxLen; omega⟩
theorem pB_I : PrqI pB := ⟨by unfold I64; decide, by unfold I64; decide, by unfold I64; decide, by show 3 ≤ _; unfold maxLen; omega⟩
theorem one_I : ∀ (i : Nat) x, [pA][i]? = some x → PrqI x := fun i x h => by
  have : i = 0 := by have := (List.getElem?_eq_some_iff.1 h).1; simp at this; omega
  subst this; simp at h; subst h; exact pA_I
theorem i64_lit {n : Int} (h : -1000 ≤ n ∧ n ≤ 1000) : I64 n := by unfold I64; omega
theorem len_bob : bob.size ≤ maxLen := by show 3 ≤ _; unfold maxLen; omega
theorem len_ann : ann.size ≤ maxLen := by show 3 ≤ _; unfold maxLen; omega
set_option maxHeartbeats 8000000 in
theorem alive_any (w : World) : Calls Try.prog 9 #[] w fun e w' => e = .returned (.bool true) ∧ Below w.heap.size w w' := by
  have HV5 : Hid (sml_pr [pA] [pA] = true) := sml_pr_true.2 rfl
  go_enter Try.func9, Try.ntmps9
  go_wp2_with fail
  refine (ask_any none [] 0 pA _ (by simp) pA_I Rd.nil).mono ?_
  rintro e w1 ⟨v1, rfl, ho1, hb1⟩
  rw [ex_ask.1, ex_ask.2] at *
  obtain ⟨g1, cap1, rfl, hc1, hg1, hw1⟩ := ho1.form (by simp)
  have HB1 := Lib.hid (etr (eal (Ext.refl w) _) hb1)
  have HR1 := Lib.hid (rd_cells (xs := [pA]) Prc_len hw1.cells)
  have HP1 := Lib.hid ((CellsAt.new (w := w) (cs := (Prc pA).toArray) (t := 24) rfl).keep hb1)
  clear ho1 hb1 hw1 hg1
  simp only [List.length_cons, List.length_nil, Nat.zero_add] at hc1 ⊢
  go_wp2_with fail
  refine (ask_any (some ⟨g1, 0, none⟩) [pA] cap1 pB _ (by simp) pB_I HR1.out).mono ?_
  rintro e w2 ⟨v2, rfl, _, hb2⟩
  rw [ex_dup.1]
  have HB2 := Lib.hid hb2
  clear hb2
  go_wp2_with fail
  refine (confirm_any (some ⟨g1, 0, none⟩) [pA] cap1 1 2 bob 20 _ (by simp) (by simpa using hc1) (i64_lit (by omega)) len_bob one_I (HR1.out.keep HB2.out)).mono ?_
  rintro e w3 ⟨v3, rfl, ho3, hb3⟩
  rw [ex_con.err, ex_con.prq]
  rw [ex_con.lst] at ho3
  obtain ⟨A3, cap3, rfl, _, _⟩ := ho3.rd Prc_len
  have HB3 := Lib.hid (etr HB2.out hb3)
  clear hb3 ho3
  have z1 : w.heap.size < w1.heap.size := HP1.out.1
  go_wp2_with fail
  refine (confirm_any (some ⟨g1, 0, none⟩) [pA] cap1 1 2 bob 21 _ (by simp) (by simpa using hc1) (i64_lit (by omega)) len_bob one_I (HR1.out.keep (eal HB3.out _))).mono ?_
  rintro e w4 ⟨v4, rfl, _, hb4⟩
  rw [ex_late.err, ex_late.prq]
  have HB4 := Lib.hid hb4
  clear hb4
  go_wp2_with fail
  refine (confirm_any (some ⟨g1, 0, none⟩) [pA] cap1 1 2 ann 20 _ (by simp) (by simpa using hc1) (i64_lit (by omega)) len_ann one_I (HR1.out.keep (eal (etr (eal HB3.out _) HB4.out) _))).mono ?_
  rintro e w5 ⟨v5, rfl, _, hb5⟩
  rw [ex_self.err, ex_self.prq]
  have HB5 := Lib.hid (etr (eal (etr (eal HB3.out _) HB4.out) _) hb5)
  have HP7 := Lib.hid (((CellsAt.new (w := w3) (cs := (Prc pA).toArray) (t := 24) rfl).keep HB4.out).keep (etr (eal (Ext.refl w4) (.cells (Prc Prq.z).toArray 24)) hb5))
  clear hb5
  have CP := HP1.out.keep HB5.out
  have p0 := CP.2 0 _ rfl
  have p1 := CP.2 1 _ rfl
  have p2 := CP.2 2 _ rfl
  have p3 := CP.2 3 _ rfl
  have pz := CP.1
  have pz1 : w.heap.size < w5.heap.size + 1 := by omega
  have q0 := HP7.out.2 0 _ rfl
  have q1 := HP7.out.2 1 _ rfl
  have q2 := HP7.out.2 2 _ rfl
  have q3 := HP7.out.2 3 _ rfl
  have qz := HP7.out.1
  have qz1 : w3.heap.size < w5.heap.size + 1 := by omega
  clear CP
  have pz2 : w.heap.size < w5.heap.size + 1 + 1 := by omega
  have qz2 : w3.heap.size < w5.heap.size + 1 + 1 := by omega
  go_wp2_with fail
  refine (to_after (same_pr (some ⟨g1, 0, none⟩) _ [pA] [pA] cap1 1 _ (by unfold maxLen; simp) (by unfold maxLen; simp) (HR1.out.keep (eal (eal HB5.out _) _)) (rd_cells (xs := [pA]) Prc_len (CellsAt.new (by simp))))).mono ?_
  rintro e w' ⟨y6, rfl, rfl⟩
  rw [HV5.out]
  have HB6 := Lib.hid (etr (eal (eal HB5.out (.cells (Prc Prq.z).toArray 24)) (.cells (Prc pA).toArray 24)) y6.is)
  go_wp2_with fail
  refine (expire_any (some ⟨g1, 0, none⟩) [pA] cap1 20 _ (by simp) (i64_lit (by omega)) one_I (HR1.out.keep HB6.out)).mono ?_
  rintro e w7 ⟨v7, rfl, ho7, hb7⟩
  rw [ex_exp.1] at ho7
  obtain ⟨A7, cap7, rfl, _, _⟩ := ho7.rd Prc_len
  have HB7 := Lib.hid (etr HB6.out hb7)
  clear ho7 hb7
  go_wp2_with fail
  refine (expire_any (some ⟨g1, 0, none⟩) [pA] cap1 21 _ (by simp) (i64_lit (by omega)) one_I (HR1.out.keep HB7.out)).mono ?_
  rintro e w8 ⟨v8, rfl, ho8, hb8⟩
  rw [ex_exp.2] at ho8
  obtain ⟨A8, cap8, rfl, _, _⟩ := ho8.rd Prc_len
  have HB8 := Lib.hid (etr HB7.out hb8)
  clear ho8 hb8
  go_wp2_with fail
  go_ret
  exact ⟨rfl, etr HB1.out HB8.out⟩
/-- What the guard says of short lists. -/
def shortP (l : List Prq) (by_ : ByteArray) : Prop := l.length ≤ 100 ∧ by_.size ≤ 200 ∧ ∀ (i : Nat) x, l[i]? = some x → x.by_.size ≤ 200
open Classical in
noncomputable def largeB (l : List Prq) (by_ : ByteArray) : Bool := !decide (shortP l by_)
theorem largeB_false {l : List Prq} {by_ : ByteArray} : largeB l by_ = false ↔ shortP l by_ := by simp [largeB]
theorem largeB_true {l : List Prq} {by_ : ByteArray} : largeB l by_ = true ↔ ¬ shortP l by_ := by simp [largeB]
set_option maxHeartbeats 4000000 in
theorem large_any (A : Option Addr) (l : List Prq) (c : Nat) (by_ : ByteArray) (w : World) (hm : l.length ≤ maxLen) (hb : by_.size ≤ maxLen) (hI : ∀ (i : Nat) x, l[i]? = some x → PrqI x) (hr : Rd w A 4 Prc l) :
    Calls Try.prog 8 #[.slice A l.length c, .string by_] w fun e w' => e = .returned (.bool (largeB l by_)) ∧ Below w.heap.size w w' := by
  unfold maxLen at hm hb
  have HR := Lib.hid hr
  have HI := Lib.hid hI
  clear hr hI
  by_cases h1 : l.length ≤ 100
  · by_cases h2 : by_.size ≤ 200
    · go_enter Try.func8, Try.ntmps8
      go_wp2
      go_loopg [5] l.length (fun g i wr => ∃ k : Nat, i = .int .i64 k ∧ k ≤ l.length ∧ g = l.length - k ∧ Hid (Ext w wr ∧ ∀ (i : Nat) x, i < k → l[i]? = some x → x.by_.size ≤ 200))
      case atStart => exact ⟨0, rfl, by omega, rfl, Ext.refl _, fun i x h => absurd h (by omega)⟩
      case round =>
        obtain ⟨k, rfl, hk, hg, H⟩ := hrel
        have HG := Lib.hid hg
        clear hg
        by_cases hlt : k < l.length
        · obtain ⟨b, off, p, rfl, hs, hbs, c0, c1, c2, c3⟩ := rd_pr HR.out H.out.1 hlt
          have hpl := (HI.out k p hs).2.2.2
          unfold maxLen at hpl
          by_cases hp : p.by_.size ≤ 200
          · have HN : Hid (∀ (i : Nat) x, i < k + 1 → l[i]? = some x → x.by_.size ≤ 200) := fun i x hi hx => by
              by_cases e : i = k
              · subst e; rw [hs] at hx; cases hx; exact hp
              · exact H.out.2 i x (by omega) hx
            clear hs
            go_wp2
            go_roundg (l.length - (k + 1))
            case measure => have := HG.out; omega
            case rel => exact ⟨k + 1, by go_num, by omega, rfl, H.out.1, HN.out⟩
          · have HV := Lib.hid (largeB_true.2 (show ¬ shortP l by_ from fun h => hp (h.2.2 k p hs)))
            have hp' : (200 : Int) < (p.by_.size : Int) := by omega
            clear hs hp
            go_wp2
            go_ret
            exact ⟨ret_bool HV.out.symm, H.out.1⟩
        · have HV := Lib.hid (largeB_false.2 (show shortP l by_ from ⟨h1, h2, fun i x hx => H.out.2 i x (by have := (List.getElem?_eq_some_iff.1 hx).1; omega) hx⟩))
          go_wp2
          go_ret
          exact ⟨ret_bool HV.out.symm, H.out.1⟩
    · have HV := Lib.hid (largeB_true.2 (show ¬ shortP l by_ from fun h => h2 h.2.1))
      go_enter Try.func8, Try.ntmps8
      go_wp2
      go_ret
      exact ⟨ret_bool HV.out.symm, Below.refl _ _⟩
  · have HV := Lib.hid (largeB_true.2 (show ¬ shortP l by_ from fun h => h1 h.1))
    go_enter Try.func8, Try.ntmps8
    go_wp2
    go_ret
    exact ⟨ret_bool HV.out.symm, Below.refl _ _⟩
end Go.Proofs.Ytcodpbiefidmkaa
