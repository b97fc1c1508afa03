/- Walks of package speeds and of its reference: least, Ceiling. -/
import Derived.Test.YthkknagicdanfaaWSpeeds
import Derived.Test.YthkknagicdanfaaWProfD
import Derived.Test.YthkknagicdanfaaWProfF
import Derived.Test.YthkknagicdanfaaWTrain
import Derived.IntWalk
set_option linter.unusedVariables false
set_option linter.unusedSimpArgs false
namespace Go.Proofs.Ythkknagicdanfaa
open Go.ChangeShapes Go.WideShapes Go.ChangeAt Go.RowKit
open Sg

def Inc (n : Int) : List Value := [.int .i64 n]
theorem Inc_len (n : Int) : (Inc n).length = 1 := rfl
theorem Inc_one (n : Int) : ∀ u ∈ Inc n, u.oneCell' = true := by intro u hu; simp [Inc] at hu; subst hu; rfl
theorem rd_int {w wr : World} {A : Option Addr} {xs : List Int} {k : Nat} (h : Rd w A 1 Inc xs) (hb : Ext w wr) (hk : k < xs.length) : ∃ b off n, A = some ⟨b, off, none⟩ ∧ xs[k]? = some n ∧ b < wr.heap.size ∧ wr.cell? ⟨b, off + k, none⟩ = some (.int .i64 n) := by
  obtain ⟨b, off, rfl, h1, h2⟩ := h.keep hb (by omega)
  obtain ⟨s, hs⟩ : ∃ s, xs[k]? = some s := ⟨_, List.getElem?_eq_getElem hk⟩
  have := h2 k s hs 0 _ rfl
  exact ⟨b, off, s, rfl, hs, h1, by simpa using this⟩
theorem minL_take {l : List Int} {k : Nat} {n : Int} (a : Int) (h : l[k]? = some n) : minL a (l.take (k + 1)) = min (minL a (l.take k)) n := by
  obtain ⟨hl, rfl⟩ := List.getElem?_eq_some_iff.1 h
  rw [List.take_succ_eq_append_getElem hl, minL_snoc]
set_option maxHeartbeats 4000000 in
theorem least_any (a : Int) (A : Option Addr) (xs : List Int) (cap : Nat) (w : World) (hm : xs.length ≤ maxLen) (hr : Rd w A 1 Inc xs) :
    Calls Try.prog 47 #[.int .i64 a, .slice A xs.length cap] w fun e w' => e = .returned (.int .i64 (minL a xs)) ∧ w = w' := by
  unfold maxLen at hm
  have HR := Lib.hid hr
  clear hr
  go_enter Try.func47, Try.ntmps47
  go_wp2
  go_loopg [0, 9] xs.length (fun g f i wr => ∃ (k : Nat) (m : Int), i = .int .i64 k ∧ k ≤ xs.length ∧ g = xs.length - k ∧ w = wr ∧ f = .int .i64 m ∧ Hid (m = minL a (xs.take k)))
  case atStart => exact ⟨0, a, rfl, by omega, rfl, rfl, rfl, rfl⟩
  case round =>
    obtain ⟨k, m, rfl, hk, hg, rfl, rfl, H⟩ := hrel
    have HG := Lib.hid hg
    clear hg
    by_cases hlt : k < xs.length
    · obtain ⟨b, off, n, rfl, hs, hbs, c0⟩ := rd_int HR.out (Ext.refl _) hlt
      have HT := Lib.hid (minL_take a hs)
      clear hs
      by_cases hc : n < m
      · go_wp2
        go_roundg (xs.length - (k + 1))
        case measure => have := HG.out; omega
        case rel => exact ⟨k + 1, _, by go_num, by omega, rfl, rfl, rfl, by have := H.out; show n = _; rw [HT.out]; omega⟩
      · have hc' : decide (n < m) = false := decide_eq_false hc
        go_wp2
        go_roundg (xs.length - (k + 1))
        case measure => have := HG.out; omega
        case rel => exact ⟨k + 1, _, by go_num, by omega, rfl, rfl, rfl, by have := H.out; show m = _; rw [HT.out]; omega⟩
    · have HE : Hid (m = minL a xs) := by have := H.out; rwa [List.take_of_length_le (by omega)] at this
      go_wp2
      go_ret
      exact ⟨ret_int HE.out, rfl⟩
set_option maxHeartbeats 4000000 in
theorem ceil_any (T : Tr) (E : Es) (A : Option Addr) (p : List Sgm) (cap : Nat) (w : World) (hm : p.length ≤ maxLen) (h1 : -4294967296 ≤ E.min ∧ E.min ≤ 4294967296) (h2 : 0 ≤ T.len ∧ T.len ≤ 4294967296) (hr : Rd w A 4 Sgc p) :
    Calls Try.prog 48 #[.agg #[.int .i64 T.id, .string T.name, .int .i64 T.len, .int .i64 T.speed, .int .i64 T.accel, .int .i64 T.service, .int .i64 T.emergency, .int .i64 T.delay, .int .i64 T.cons, .int .i64 T.rate], .slice A p.length cap, .agg #[.int .i64 E.min, .int .i64 E.max, .int .i64 E.speed]] w fun e w' => e = .returned (.int .i64 (ceilV T p E)) ∧ Below w.heap.size w w' := by
  have HR := Lib.hid hr
  have HM := Lib.hid hm
  have n1 : IntKind.i64.wrap (E.min - T.len) = E.min - T.len := IntWalk.i64_in _ (by omega)
  clear hr hm
  go_enter Try.func48, Try.ntmps48
  go_wp2_with fail
  have HB0 := Lib.hid (eal (eal (Ext.refl w) (.cells ([.int .i64 T.id, .string T.name, .int .i64 T.len, .int .i64 T.speed, .int .i64 T.accel, .int .i64 T.service, .int .i64 T.emergency, .int .i64 T.delay, .int .i64 T.cons, .int .i64 T.rate]).toArray 23)) (.cells ([.int .i64 E.min, .int .i64 E.max, .int .i64 E.speed]).toArray 29))
  refine wp_region_mono [0, 1, 2, 3, 4, 5, 6, 7, 8, 9, 10] 3 (by kernel_rfl) (by kernel_rfl) (fun _ _ d _ _ h => by cases d <;> exact h) (by kernel_rfl) (by kernel_rfl) ?_
  repeat (refine wpE_step rfl (fun K hK => ?_); go_simp; (first
    | (refine hK _ ?_; clear hK K)
    | (apply Exists.intro
       refine ⟨fun x => ?_, hK _ ?_⟩
       (go_at_call 65; exact slowest_any _ p cap _ _ _ HM.out (HR.out.keep (etr HB0.out x.is)))
       clear hK K)))
  refine wpE_nil ?_
  intro x
  refine wpAnyR_ready (rs := [11]) (by kernel_rfl) (by simp) (AllR.cons rfl (fun K hK => ?_) AllR.nil)
  go_simp
  refine hK _ _ (eal (Ext.refl _) _) (fun z => ?_)
  clear hK K
  have HRz : Hid (Rd z.val (some ⟨x.val.heap.size, 0, none⟩) 1 Inc [slowV p (E.min - T.len) E.max]) := (rd_cells (xs := [slowV p (E.min - T.len) E.max]) Inc_len (CellsAt.new rfl)).keep z.is
  refine wpAnyR_more [12, 13] (fuel := 0) (by kernel_rfl) (fun _ _ d _ _ h => by cases d <;> exact h) (by kernel_rfl) rfl ?_
  repeat (refine wpE_step rfl (fun K hK => ?_); go_simp; (first
    | (refine hK _ ?_; clear hK K)
    | (apply Exists.intro
       refine ⟨fun x => ?_, hK _ ?_⟩
       (go_at_call 47; exact (least_any T.speed _ [slowV p (E.min - T.len) E.max] 1 _ (by unfold maxLen; simp) (HRz.out.keep x.is)).mono (fun e w' ⟨h1, h2⟩ => ⟨h1, by subst h2; exact Ext.refl _⟩))
       clear hK K)))
  refine wpE_nil ?_
  intro z9
  refine wpAnyR_done (by kernel_rfl) ?_ _
  go_wp2
  go_ret
  exact ⟨rfl, etr (etr (eal (etr HB0.out x.is) _) z.is) z9.is⟩
set_option maxHeartbeats 4000000 in
theorem rceil_any (T : Tr) (E : Es) (A : Option Addr) (p : List Sgm) (cap : Nat) (w : World) (hm : p.length ≤ 1000000) (h1 : -4294967296 ≤ E.min ∧ E.min ≤ 4294967296) (h2 : 0 ≤ T.len ∧ T.len ≤ 4294967296) (hr : Rd w A 4 Sgc p) :
    Calls Try.prog 49 #[.agg #[.int .i64 T.id, .string T.name, .int .i64 T.len, .int .i64 T.speed, .int .i64 T.accel, .int .i64 T.service, .int .i64 T.emergency, .int .i64 T.delay, .int .i64 T.cons, .int .i64 T.rate], .slice A p.length cap, .agg #[.int .i64 E.min, .int .i64 E.max, .int .i64 E.speed]] w fun e w' => e = .returned (.int .i64 (ceilV T p E)) ∧ Below w.heap.size w w' := by
  have HR := Lib.hid hr
  have n1 : IntKind.i64.wrap (E.min - T.len) = E.min - T.len := IntWalk.i64_in _ (by omega)
  have HE : Hid (ceilV T p E = min T.speed (slowV p (E.min - T.len) E.max)) := rfl
  clear hr
  have HB0 := Lib.hid (eal (eal (Ext.refl w) (.cells ([.int .i64 T.id, .string T.name, .int .i64 T.len, .int .i64 T.speed, .int .i64 T.accel, .int .i64 T.service, .int .i64 T.emergency, .int .i64 T.delay, .int .i64 T.cons, .int .i64 T.rate]).toArray 23)) (.cells ([.int .i64 E.min, .int .i64 E.max, .int .i64 E.speed]).toArray 29))
  by_cases hc : T.speed ≤ slowV p (E.min - T.len) E.max
  all_goals
    try have hc' : slowV p (E.min - T.len) E.max < T.speed := by omega
    go_enter Try.func49, Try.ntmps49
    go_wp2_with fail
    refine wp_region_after (by kernel_rfl) (by kernel_rfl) ?_
    repeat (first | go_big_quiet_step ((go_at_call 66; exact after_call _ (rslow_any _ p cap _ _ _ hm (HR.out.keep (eafter HB0.out _))))))
    refine wpQuiet_nil ?_
    rintro _ ⟨y, rfl⟩
    go_wp2
    go_ret
    exact ⟨ret_int (by rw [HE.out]; omega), eafter HB0.out y⟩
end Go.Proofs.Ythkknagicdanfaa
