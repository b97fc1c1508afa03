/- Walks of package pair and of its reference: due, the search. -/
import Derived.Test.YtcodpbiefidmkaaWPairA
set_option linter.unusedVariables false
set_option linter.unusedSimpArgs false
namespace Go.Proofs.Ytcodpbiefidmkaa
open Go.ChangeShapes Go.WideShapes Go.ChangeAt Go.RowKit
open Sg

theorem u64_of (x : Int) : IntKind.u64.wrap x = x % 18446744073709551616 := by
  simp [IntKind.wrap, IntKind.bits, IntKind.signed]
theorem u64_dif {a b : Int} (ha : I64 a) (hb : I64 b) (h : b ≤ a) : IntKind.u64.wrap (IntKind.u64.wrap a - IntKind.u64.wrap b) = a - b := by
  unfold I64 at *; rw [u64_of, u64_of, u64_of]; omega
theorem due_gen (F : FuncId) (p : Prq) (now : Int) (w : World) (hp : I64 p.since) (hn : I64 now) (hF : F = 23 ∨ F = 25) : Calls Try.prog F #[.agg #[.int .i64 p.kind, .int .i64 p.subject, .int .i64 p.since, .string p.by_], .int .i64 now] w fun e w' => e = .returned (.bool (dueB p now)) ∧ Below w.heap.size w w' := by
  by_cases h1 : now < p.since
  · have HE : Hid (dueB p now = true) := dueB_true.2 (.inl h1)
    rcases hF with rfl | rfl
    · go_enter Try.func23, Try.ntmps23
      go_wp2
      go_ret
      exact ⟨ret_bool HE.out.symm, eal (Ext.refl _) _⟩
    · go_enter Try.func25, Try.ntmps25
      go_wp2
      go_ret
      exact ⟨ret_bool HE.out.symm, eal (Ext.refl _) _⟩
  · have h1' : decide (now < p.since) = false := decide_eq_false h1
    have hu := u64_dif hn hp (by omega)
    have HE : Hid (dueB p now = decide (10 < now - p.since)) := by show _ = _; unfold dueB; rw [h1', Bool.false_or]
    rcases hF with rfl | rfl
    · go_enter Try.func23, Try.ntmps23
      go_wp2
      go_ret
      exact ⟨ret_bool (by rw [HE.out]), eal (Ext.refl _) _⟩
    · go_enter Try.func25, Try.ntmps25
      go_wp2
      go_ret
      exact ⟨ret_bool (by rw [HE.out]), eal (Ext.refl _) _⟩
theorem due_any (p : Prq) (now : Int) (w : World) (hp : I64 p.since) (hn : I64 now) : Calls Try.prog 23 #[.agg #[.int .i64 p.kind, .int .i64 p.subject, .int .i64 p.since, .string p.by_], .int .i64 now] w fun e w' => e = .returned (.bool (dueB p now)) ∧ Below w.heap.size w w' := due_gen _ p now w hp hn (.inl rfl)
theorem rdue_any (p : Prq) (now : Int) (w : World) (hp : I64 p.since) (hn : I64 now) : Calls Try.prog 25 #[.agg #[.int .i64 p.kind, .int .i64 p.subject, .int .i64 p.since, .string p.by_], .int .i64 now] w fun e w' => e = .returned (.bool (dueB p now)) ∧ Below w.heap.size w w' := due_gen _ p now w hp hn (.inr rfl)
theorem hit_any (k s : Int) (p : Prq) (b4 b5 : Nat) (w : World) (h4 : w.cell? ⟨b4, 0, none⟩ = some (.int .i64 k)) (h5 : w.cell? ⟨b5, 0, none⟩ = some (.int .i64 s)) (l4 : b4 < w.heap.size) (l5 : b5 < w.heap.size) :
    Calls Try.prog 28 #[.agg #[.int .i64 p.kind, .int .i64 p.subject, .int .i64 p.since, .string p.by_], .pointer (some ⟨b4, 0, none⟩), .pointer (some ⟨b5, 0, none⟩)] w fun e w' => e = .returned (.bool (hitP k s p)) ∧ Below w.heap.size w w' := by
  have HE : Hid (hitP k s p = (p.kind == k && p.subject == s)) := rfl
  cases h1 : (p.kind == k)
  all_goals
    rw [h1] at HE
    go_enter Try.func28, Try.ntmps28
    go_wp2
    go_ret
    exact ⟨ret_bool (by rw [HE.out]; simp), eal (Ext.refl _) _⟩
set_option maxHeartbeats 4000000 in
theorem idxf_any (A : Option Addr) (l : List Prq) (c : Nat) (k s : Int) (b4 b5 : Nat) (w : World) (hm : l.length ≤ maxLen) (hr : Rd w A 4 Prc l) (h4 : w.cell? ⟨b4, 0, none⟩ = some (.int .i64 k)) (h5 : w.cell? ⟨b5, 0, none⟩ = some (.int .i64 s)) (l4 : b4 < w.heap.size) (l5 : b5 < w.heap.size) :
    Calls Try.prog 27 #[.slice A l.length c, .func (.func 28) #[] #[.pointer (some ⟨b4, 0, none⟩), .pointer (some ⟨b5, 0, none⟩)]] w fun e w' => e = .returned (.int .i64 (idxV k s l)) ∧ Below w.heap.size w w' := by
  unfold maxLen at hm
  have HR := Lib.hid hr
  have H4 := Lib.hid h4
  have H5 := Lib.hid h5
  clear hr h4 h5
  go_enter Try.func27, Try.ntmps27
  go_wp2
  go_loopg [8] l.length (fun g i wr => ∃ j : Nat, i = .int .i64 j ∧ j ≤ l.length ∧ g = l.length - j ∧ Hid (Ext w wr ∧ ∀ (i : Nat) t, i < j → l[i]? = some t → hitP k s t = false))
  case atStart => exact ⟨0, rfl, by omega, rfl, Ext.refl _, fun i t h => absurd h (by omega)⟩
  case round =>
    obtain ⟨j, rfl, hj, hg, H⟩ := hrel
    have HG := Lib.hid hg
    clear hg
    by_cases hlt : j < l.length
    · obtain ⟨b, off, p, rfl, hs, hbs, c0, c1, c2, c3⟩ := rd_pr HR.out H.out.1 hlt
      have k4 := (H.out.1.cell (p := ⟨b4, 0, none⟩) l4).trans H4.out
      have k5 := (H.out.1.cell (p := ⟨b5, 0, none⟩) l5).trans H5.out
      have z4 : b4 < wr.heap.size := Nat.lt_of_lt_of_le l4 H.out.1.size
      have z5 : b5 < wr.heap.size := Nat.lt_of_lt_of_le l5 H.out.1.size
      cases hh : hitP k s p
      · have HN : Hid (∀ (i : Nat) t, i < j + 1 → l[i]? = some t → hitP k s t = false) := fun i t hi ht => by
          by_cases e : i = j
          · subst e; rw [hs] at ht; cases ht; exact hh
          · exact H.out.2 i t (by omega) ht
        clear hs
        go_wp2_with (go_at_call 28; refine (to_after (hit_any k s p b4 b5 _ k4 k5 z4 z5)).mono ?_; rintro e w' ⟨y, rfl, rfl⟩)
        go_roundg (l.length - (j + 1))
        case measure => have := HG.out; omega
        case rel => exact ⟨j + 1, by go_num, by omega, rfl, etr H.out.1 y.is, HN.out⟩
      · have HE : Hid (idxV k s l = j) := idxV_some (idxO_some hs hh H.out.2)
        clear hs
        go_wp2_with (go_at_call 28; refine (to_after (hit_any k s p b4 b5 _ k4 k5 z4 z5)).mono ?_; rintro e w' ⟨y, rfl, rfl⟩)
        go_ret
        exact ⟨ret_int HE.out.symm, etr H.out.1 y.is⟩
    · have HE : Hid (idxV k s l = -1) := idxV_none (idxO_none fun i t ht => H.out.2 i t (by have := (List.getElem?_eq_some_iff.1 ht).1; omega) ht)
      go_wp2
      go_ret
      exact ⟨ret_int HE.out.symm, H.out.1⟩
theorem index_any (A : Option Addr) (l : List Prq) (c : Nat) (k s : Int) (w : World) (hm : l.length ≤ maxLen) (hr : Rd w A 4 Prc l) :
    Calls Try.prog 19 #[.slice A l.length c, .int .i64 k, .int .i64 s] w fun e w' => e = .returned (.int .i64 (idxV k s l)) ∧ Below w.heap.size w w' := by
  have HM := Lib.hid hm
  have HR := Lib.hid hr
  clear hm hr
  go_enter Try.func19, Try.ntmps19
  go_wp2_with (go_at_call 27; refine (to_after (idxf_any A l c k s w.heap.size (w.heap.size + 1) _ HM.out (HR.out.keep (eal (eal (Ext.refl _) _) _)) ((((CellsAt.new (w := w) (cs := #[.int .i64 k]) (t := 3) rfl)).alloc _).2 0 _ rfl) ((CellsAt.new (w := w.alloc (.cells #[.int .i64 k] 3)) (cs := #[.int .i64 s]) (t := 3) (by simp)).2 0 _ rfl) (by simp; omega) (by simp))).mono ?_; rintro e w' ⟨y, rfl, rfl⟩)
  go_ret
  exact ⟨rfl, etr (eal (eal (Ext.refl _) _) _) y.is⟩
set_option maxHeartbeats 4000000 in
theorem find_any (A : Option Addr) (l : List Prq) (c : Nat) (k s : Int) (w : World) (hm : l.length ≤ maxLen) (hr : Rd w A 4 Prc l) :
    Calls Try.prog 22 #[.slice A l.length c, .int .i64 k, .int .i64 s] w fun e w' => e = .returned (.int .i64 (idxV k s l)) ∧ Below w.heap.size w w' := by
  unfold maxLen at hm
  have HR := Lib.hid hr
  clear hr
  go_enter Try.func22, Try.ntmps22
  go_wp2
  go_loopg [7] l.length (fun g i wr => ∃ j : Nat, i = .int .i64 j ∧ j ≤ l.length ∧ g = l.length - j ∧ Hid (Ext w wr ∧ ∀ (i : Nat) t, i < j → l[i]? = some t → hitP k s t = false))
  case atStart => exact ⟨0, rfl, by omega, rfl, Ext.refl _, fun i t h => absurd h (by omega)⟩
  case round =>
    obtain ⟨j, rfl, hj, hg, H⟩ := hrel
    have HG := Lib.hid hg
    clear hg
    by_cases hlt : j < l.length
    · obtain ⟨b, off, p, rfl, hs, hbs, c0, c1, c2, c3⟩ := rd_pr HR.out H.out.1 hlt
      cases hh : hitP k s p
      · have HN : Hid (∀ (i : Nat) t, i < j + 1 → l[i]? = some t → hitP k s t = false) := fun i t hi ht => by
          by_cases e : i = j
          · subst e; rw [hs] at ht; cases ht; exact hh
          · exact H.out.2 i t (by omega) ht
        have key : (p.kind == k) = false ∨ ((p.kind == k) = true ∧ (p.subject == s) = false) := by
          unfold hitP at hh
          cases h1 : (p.kind == k)
          · exact .inl rfl
          · rw [h1, Bool.true_and] at hh; exact .inr ⟨rfl, hh⟩
        clear hs hh
        rcases key with q1 | ⟨q1, q2⟩
        all_goals go_wp2
        all_goals go_roundg (l.length - (j + 1))
        all_goals first | (case measure => have := HG.out; omega) | skip
        all_goals exact ⟨j + 1, by go_num, by omega, rfl, H.out.1, HN.out⟩
      · have HE : Hid (idxV k s l = j) := idxV_some (idxO_some hs hh H.out.2)
        obtain ⟨q1, q2⟩ : (p.kind == k) = true ∧ (p.subject == s) = true := by unfold hitP at hh; simpa using hh
        clear hs hh
        go_wp2
        go_ret
        exact ⟨ret_int HE.out.symm, H.out.1⟩
    · have HE : Hid (idxV k s l = -1) := idxV_none (idxO_none fun i t ht => H.out.2 i t (by have := (List.getElem?_eq_some_iff.1 ht).1; omega) ht)
      go_wp2
      go_ret
      exact ⟨ret_int HE.out.symm, H.out.1⟩
end Go.Proofs.Ytcodpbiefidmkaa
