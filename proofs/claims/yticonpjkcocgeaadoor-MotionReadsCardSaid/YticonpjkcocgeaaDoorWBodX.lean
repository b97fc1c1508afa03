/- Several texts in one: WBodA, WBodB, WBodC. -/
import Derived.Test.YticonpjkcocgeaaDoorPAll
import Derived.Test.YticonpjkcocgeaaDoorWLays
import Derived.Test.YticonpjkcocgeaaDoorKAll
set_option linter.unusedVariables false
set_option linter.unusedSimpArgs false
set_option maxRecDepth 100000
namespace Go.Proofs.YticonpjkcocgeaaDoor
open Go.ChangeShapes Go.WideShapes Go.ChangeAt Go.RowKit
open Sg

/-- A body's box. -/
abbrev BdyAt (w : World) (b : Nat) (A : Option Addr) (way : List Stp) (c : Nat) (head len : Int) : Prop := CellsAt w b [.slice A way.length c, .int .i64 head, .int .i64 len]
theorem bdyAt_cells {w : World} {b : Nat} {A : Option Addr} {way : List Stp} {c : Nat} {head len : Int} (h : BdyAt w b A way c head len) : b < w.heap.size ∧ w.cell? ⟨b, 0, none⟩ = some (.slice A way.length c) ∧ w.cell? ⟨b, 1, none⟩ = some (.int .i64 head) ∧ w.cell? ⟨b, 2, none⟩ = some (.int .i64 len) := ⟨h.1, h.2 0 _ rfl, h.2 1 _ rfl, h.2 2 _ rfl⟩
theorem way_in {els : List Elm} {jts : List Jnt} {way : List Stp} (h : Sg.Way els jts way) : WayIn els way := fun k s hs => (h.step hs).1
theorem lastS_get {way : List Stp} (h : 0 < way.length) : way[way.length - 1]? = some (lastS way) := lastS_at h
theorem len_bd {els : List Elm} (hE : ElsOk els) {s : Stp} (h : hasEl els s.el) : 500 ≤ lenOf els s ∧ lenOf els s ≤ 1000000 := by
  obtain ⟨k, x, _, hx, e⟩ := has_at h
  unfold lenOf
  rw [e]
  exact ⟨(hE k x hx).2.2.1, (hE k x hx).2.2.2.1⟩
theorem sumL_bd {els : List Elm} (hE : ElsOk els) : ∀ {way : List Stp}, WayIn els way → 0 ≤ sumL els way ∧ sumL els way ≤ 1000000 * way.length
  | [], _ => by simp [sumL]
  | s :: r, h => by
    have h1 := len_bd hE (h 0 s rfl)
    have h2 := sumL_bd hE (way := r) (fun k t ht => h (k + 1) t (by simpa using ht))
    simp only [sumL, List.length_cons]
    omega
theorem wayIn_take {els : List Elm} {way : List Stp} (h : WayIn els way) (n : Nat) : WayIn els (way.take n) := fun k s hs => h k s (by
  rw [List.getElem?_take] at hs
  split at hs
  · exact hs
  · cases hs)
theorem rd_take {α : Type} {w : World} {A : Option Addr} {k : Nat} {enc : α → List Value} {xs : List α} (h : Rd w A k enc xs) (n : Nat) : Rd w A k enc (xs.take n) := fun h0 => by
  obtain ⟨b, off, e, h1, h2⟩ := h (by simp at h0; omega)
  exact ⟨b, off, e, h1, fun i x hi => h2 i x (by rw [List.getElem?_take] at hi; split at hi; exact hi; cases hi)⟩
theorem rd_drop {α : Type} {w : World} {b off k : Nat} {enc : α → List Value} {xs : List α} (h : Rd w (some ⟨b, off, none⟩) k enc xs) (n : Nat) : Rd w (some ⟨b, off + n * k, none⟩) k enc (xs.drop n) := fun h0 => by
  obtain ⟨b', off', e, h1, h2⟩ := h (by simp at h0; omega)
  cases e
  refine ⟨b, off + n * k, rfl, h1, fun i x hi j v hj => ?_⟩
  have := h2 (n + i) x (by rw [List.getElem?_drop] at hi; exact hi) j v hj
  rw [← this]; congr 2; rw [Nat.add_mul]; omega
section
set_option maxHeartbeats 8000000
/-! ### the element's length -/
theorem rlong_any (L : Lay) (s : Stp) (w : World) (hL : LayOk w L) (h0 : hasEl L.els s.el) : Calls Tryd.prog 68 #[.agg #[.string L.name, .slice L.aS L.secs.length L.cS, .slice L.aE L.els.length L.cE, .slice L.aJ L.jts.length L.cJ, .slice L.aG L.sgs.length L.cG, .slice L.aB L.bals.length L.cB], .agg #[.int .i64 s.el, .int .i64 s.in_, .int .i64 s.out_]] w fun e w' => e = .returned (.int .i64 (lenOf L.els s)) ∧ Below w.heap.size w w' := by
  have HL := Lib.hid hL
  obtain ⟨k, x, hk, hs, hx⟩ := has_at h0
  have hlt := (List.getElem?_eq_some_iff.1 hs).1
  obtain ⟨b, off, x', hA, hs', hbl, c0, c1, c2, c3, c4, c5, c6⟩ := rd_el HL.out.hE (Ext.refl w) hlt
  rw [hs] at hs'
  cases hs'
  have HV : Hid (lenOf L.els s = x.len) := by show _ = _; unfold lenOf; rw [hx]
  have hbl1 : b < w.heap.size + 1 := by omega
  have hbl2 : b < w.heap.size + 1 + 1 := by omega
  have HLm := Lib.hid HL.out.lE
  obtain ⟨el, in_, out_⟩ := s
  obtain rfl : el = (k : Int) := hk
  clear c0 c1 c3 c4 c5 c6 hx hs h0 hL
  simp only [] at HV ⊢
  rw [hA]
  clear hA
  go_enter Tryd.func68, Tryd.ntmps68
  go_wp2
  go_ret
  exact ⟨ret_int HV.out.symm, eal (eal (Ext.refl _) _) _⟩
/-! ### the last step -/
theorem last_any (A : Option Addr) (way : List Stp) (c : Nat) (head len : Int) (w : World) (hr : Rd w A 3 Stc way) (h0 : 0 < way.length) (hm : way.length ≤ maxLen) : Calls Tryd.prog 31 #[.agg #[.slice A way.length c, .int .i64 head, .int .i64 len]] w fun e w' => e = .returned (.agg #[.int .i64 (lastS way).el, .int .i64 (lastS way).in_, .int .i64 (lastS way).out_]) ∧ Below w.heap.size w w' := by
  obtain ⟨b, off, s, rfl, hs, hbl, c0, c1, c2⟩ := rd_st hr (Ext.refl w) (k := way.length - 1) (by omega)
  have e : s = lastS way := by have := lastS_get h0; rw [hs] at this; cases this; rfl
  subst e
  unfold maxLen at hm
  have hbl1 : b < w.heap.size + 1 := by omega
  have hbl2 : b < w.heap.size + 1 + 1 := by omega
  have n1 : IntKind.i64.wrap ((way.length : Int) - 1) = (way.length : Int) - 1 := IntWalk.i64_in _ (by omega)
  have n2 : ((way.length : Int) - 1).toNat = way.length - 1 := by omega
  have n3 : (0 : Int) ≤ (way.length : Int) - 1 := by omega
  have n4 : (way.length : Int) - 1 < (way.length : Int) := by omega
  have n5 : (1 : Int) ≤ (way.length : Int) := by omega
  have n6 : 1 ≤ way.length := by omega
  have n7 : way.length - 1 < way.length := by omega
  clear hs hr
  go_enter Tryd.func31, Tryd.ntmps31
  go_wp2
  exact bodyPost_ret (v := .agg #[.int .i64 (lastS way).el, .int .i64 (lastS way).in_, .int .i64 (lastS way).out_]) (by simp [results, Tryd.results31, go_sem]) rfl ⟨rfl, eal (eal (Ext.refl w) _) _⟩
/-! ### the sum of the lengths -/
theorem length_any (L : Lay) (A : Option Addr) (way : List Stp) (c : Nat) (w : World) (hL : LayOk w L) (hE : ElsOk L.els) (hr : Rd w A 3 Stc way) (hin : WayIn L.els way) (hm : way.length ≤ 200) : Calls Tryd.prog 84 #[.agg #[.string L.name, .slice L.aS L.secs.length L.cS, .slice L.aE L.els.length L.cE, .slice L.aJ L.jts.length L.cJ, .slice L.aG L.sgs.length L.cG, .slice L.aB L.bals.length L.cB], .slice A way.length c] w fun e w' => e = .returned (.int .i64 (sumL L.els way)) ∧ Below w.heap.size w w' := by
  have HL := Lib.hid hL
  have HE := Lib.hid hE
  have HR := Lib.hid hr
  have HI := Lib.hid hin
  clear hL hE hr hin
  go_enter Tryd.func84, Tryd.ntmps84
  go_wp2
  go_loopg [5, 10] way.length (fun g x5 ix wr => ∃ (k : Nat) (v : Int), ix = .int .i64 k ∧ x5 = .int .i64 v ∧ k ≤ way.length ∧ g = way.length - k ∧ Hid (Ext w wr ∧ LayAt wr w.heap.size L ∧ v = sumL L.els (way.take k)))
  case atStart => exact ⟨0, 0, rfl, rfl, by omega, by omega, eal (Ext.refl _) _, CellsAt.new rfl, by simp [sumL]⟩
  case round =>
    obtain ⟨k, v, rfl, rfl, hk, hg, H⟩ := hrel
    have HG := Lib.hid hg
    clear hg
    by_cases hlt : k < way.length
    · obtain ⟨bw, ow, s, rfl, hs, hbs, s0, s1, s2⟩ := rd_st HR.out H.out.1 hlt
      obtain ⟨kE, x, hel, hx, hxe⟩ := has_at (HI.out k s hs)
      have hxb := HE.out kE x hx
      have hkE := (List.getElem?_eq_some_iff.1 hx).1
      have hmE := HL.out.lE
      unfold maxLen at hmE
      obtain ⟨bE, oE, x', hAE, hx', hbE, e0, e1, e2, e3, e4, e5, e6⟩ := rd_el HL.out.hE H.out.1 hkE
      rw [hx] at hx'
      cases hx'
      obtain ⟨l0, a0, a1, a2, a3, a4, a5⟩ := layAt_cells H.out.2.1
      have l1 := lt_up l0
      have hbs1 := lt_up hbs
      have hbE1 := lt_up hbE
      have HS := Lib.hid hs
      obtain ⟨sel, sin, sout⟩ := s
      obtain rfl : sel = (kE : Int) := hel
      simp only [] at s0 s1 s2 HS hxe
      have HN : Hid (v + x.len = sumL L.els (way.take (k + 1))) := by
        show _ = _
        rw [sumL_take L.els HS.out, H.out.2.2]
        unfold lenOf
        rw [hxe]
      have hv := sumL_bd HE.out (wayIn_take HI.out k)
      rw [← H.out.2.2] at hv
      have hv2 : (1000000 : Int) * ((way.take k).length : Int) ≤ 200000000 := by simp; omega
      have hv3 := hxb.2.2.2.1
      have hv4 := hxb.2.2.1
      have hv5 := hv.1
      have hv6 := hv.2
      have HIN : Hid (hasB L.els (kE : Int) = true) := hasB_true (by omega) (by omega)
      have q3n : decide (L.els.length ≤ kE) = false := decide_eq_false (by omega)
      rw [hAE] at a2
      have HAE := Lib.hid hAE
      clear hAE
      clear hs hx hxe hxb hv
      go_wp2_with (go_at_call 105; refine (to_after (exi_any { L with aE := some ⟨bE, oE, none⟩ } kE _)).mono ?_; rw [HIN.out]; rintro e w' ⟨y, rfl, rfl⟩)
      have l2 : w.heap.size < y.val.heap.size := by have := y.is.size; simp at this; omega
      have hbE2 : bE < y.val.heap.size := by have := y.is.size; simp at this; omega
      go_wp2
      go_roundg (way.length - (k + 1))
      case measure => have := HG.out; omega
      case rel => exact ⟨k + 1, v + x.len, by go_num, by go_num, by omega, rfl, etr (eal H.out.1 _) y.is, H.out.2.1.keep (etr (eal (Ext.refl _) _) y.is), HN.out⟩
    · have e : k = way.length := by omega
      subst e
      have HN : Hid (v = sumL L.els way) := by have := H.out.2.2; rwa [List.take_length] at this
      go_wp2
      go_ret
      exact ⟨ret_int HN.out, H.out.1⟩
end
end Go.Proofs.YticonpjkcocgeaaDoor

set_option linter.unusedVariables false
set_option linter.unusedSimpArgs false
set_option maxRecDepth 100000
namespace Go.Proofs.YticonpjkcocgeaaDoor
open Go.ChangeShapes Go.WideShapes Go.ChangeAt Go.RowKit
open Sg

/-- Plain words. -/
theorem rows_none {k i p : Int} (h : ∀ (j : Nat) a b c n, rowsP[j]? = some (a, b, c, n) → ¬ (k = a ∧ i = b ∧ (n = 0 ∨ n = p))) : outO k i p = none := by
  have h0 := h 0 _ _ _ _ rfl
  have h1 := h 1 _ _ _ _ rfl
  have h2 := h 2 _ _ _ _ rfl
  have h3 := h 3 _ _ _ _ rfl
  have h4 := h 4 _ _ _ _ rfl
  have h5 := h 5 _ _ _ _ rfl
  have h6 := h 6 _ _ _ _ rfl
  have h7 := h 7 _ _ _ _ rfl
  have h8 := h 8 _ _ _ _ rfl
  have h9 := h 9 _ _ _ _ rfl
  unfold outO
  repeat' split
  all_goals first | rfl | (exfalso; omega)
theorem rows_out {j : Nat} {a b c n : Int} (hr : rowsP[j]? = some (a, b, c, n)) : ∀ p, (n = 0 ∨ n = p) → outO a b p = some c :=
  rows_at (P := fun j a b c n => ∀ p, (n = 0 ∨ n = p) → outO a b p = some c) ⟨fun p h => rfl, fun p h => rfl, fun p h => by rcases h with h | h; cases h; subst h; rfl, fun p h => by rcases h with h | h; cases h; subst h; rfl, fun p h => by rcases h with h | h; cases h; subst h; rfl, fun p h => by rcases h with h | h; cases h; subst h; rfl, fun p h => rfl, fun p h => rfl, fun p h => rfl, fun p h => rfl⟩ hr
def OutTo (k i p : Int) (j : Nat) : Prop := ∀ m a b c n, m < j → rowsP[m]? = some (a, b, c, n) → ¬ (k = a ∧ i = b ∧ (n = 0 ∨ n = p))
theorem OutTo.step {k i p : Int} {j : Nat} {a b c n : Int} (h : OutTo k i p j) (hr : rowsP[j]? = some (a, b, c, n)) (hn : ¬ (k = a ∧ i = b ∧ (n = 0 ∨ n = p))) : OutTo k i p (j + 1) := fun m a' b' c' n' hm hr' => by
  by_cases e : m = j
  · subst e; rw [hr] at hr'; cases hr'; exact hn
  · exact h m a' b' c' n' (by omega) hr'
theorem OutTo.none {k i p : Int} (h : OutTo k i p 10) : outO k i p = none := rows_none fun j a b c n hr => h j a b c n (List.getElem?_eq_some_iff.1 hr).1 hr
noncomputable def outV (k i p : Int) : Int := (outO k i p).getD 0
noncomputable def outB (k i p : Int) : Bool := (outO k i p).isSome
/-- The reference tries the four sides. -/
theorem need_row' {k i o n : Int} (h : needO k i o = some n) : ∃ j : Nat, rowsP[j]? = some (k, i, o, n) := by
  unfold needO at h
  split at h
  · rename_i c
    cases h
    obtain ⟨rfl, ⟨rfl, rfl⟩ | ⟨rfl, rfl⟩⟩ := c
    · exact ⟨0, rfl⟩
    · exact ⟨1, rfl⟩
  · split at h
    · rename_i c
      cases h
      obtain ⟨rfl, ⟨rfl, rfl⟩ | ⟨rfl, rfl⟩ | ⟨rfl, rfl⟩ | ⟨rfl, rfl⟩⟩ := c
      · exact ⟨6, rfl⟩
      · exact ⟨7, rfl⟩
      · exact ⟨8, rfl⟩
      · exact ⟨9, rfl⟩
    · split at h
      · rename_i c
        cases h
        obtain ⟨rfl, ⟨rfl, rfl⟩ | ⟨rfl, rfl⟩⟩ := c
        · exact ⟨2, rfl⟩
        · exact ⟨4, rfl⟩
      · split at h
        · rename_i c
          cases h
          obtain ⟨rfl, ⟨rfl, rfl⟩ | ⟨rfl, rfl⟩⟩ := c
          · exact ⟨3, rfl⟩
          · exact ⟨5, rfl⟩
        · cases h
theorem need_out {k i p o n : Int} (h : needO k i o = some n) (hn : n = 0 ∨ n = p) : outO k i p = some o := by
  obtain ⟨j, hr⟩ := need_row' h
  exact rows_out hr p hn
theorem out_need {k i p o : Int} (h : outO k i p = some o) : (o = 0 ∨ o = 1 ∨ o = 2 ∨ o = 3) ∧ ∃ n, needO k i o = some n ∧ (n = 0 ∨ n = p) := by
  unfold outO at h
  unfold needO
  repeat' split at h
  all_goals first | (exfalso; cases h; done) | skip
  all_goals (injection h with h; subst h)
  all_goals simp_all
def SideTo (k i p : Int) (j : Nat) : Prop := ∀ m : Nat, m < j → ¬ (needB k i m = true ∧ (needV k i m = 0 ∨ needV k i m = p))
theorem SideTo.none {k i p : Int} (h : SideTo k i p 4) : outO k i p = none := by
  cases ho : outO k i p with
  | none => rfl
  | some o =>
    obtain ⟨h1, n, h2, h3⟩ := out_need ho
    have key : ∀ m : Nat, m < 4 → o = (m : Int) → False := fun m hm e => by
      subst e
      exact h m hm ⟨by rw [needB, h2]; rfl, by rw [needV, h2]; exact h3⟩
    rcases h1 with e | e | e | e
    · exact absurd (key 0 (by omega) e) id
    · exact absurd (key 1 (by omega) e) id
    · exact absurd (key 2 (by omega) e) id
    · exact absurd (key 3 (by omega) e) id
theorem side_yes {k i p : Int} {m : Nat} (h : needB k i m = true) (g : needV k i m = 0 ∨ needV k i m = p) : outO k i p = some m := by
  unfold needB at h
  obtain ⟨n, hn⟩ := Option.isSome_iff_exists.1 h
  refine need_out hn ?_
  rw [needV, hn] at g; exact g
theorem SideTo.step {k i p : Int} {j : Nat} (h : SideTo k i p j) (hn : ¬ (needB k i j = true ∧ (needV k i j = 0 ∨ needV k i j = p))) : SideTo k i p (j + 1) := fun m hm => by
  by_cases e : m = j
  · subst e; exact hn
  · exact h m (by omega)
noncomputable def secV (els : List Elm) (el : Int) : Int := if hasB els el = true then (elAt els el).sec else -1
/-- The step over an element. -/
def covF (l : List Stp) (el : Int) : Option Stp := l.find? fun s => s.el == el
def covS (l : List Stp) (el : Int) : Stp := (covF l el).getD Stp.z
theorem covB_is (l : List Stp) (el : Int) : covB l el = (covF l el).isSome := by
  induction l with
  | nil => rfl
  | cons s r ih => simp only [covB, covF, List.any_cons, List.find?_cons] at ih ⊢; cases s.el == el <;> simp [ih]
def CovTo (l : List Stp) (el : Int) (j : Nat) : Prop := ∀ m s, m < j → l[m]? = some s → s.el ≠ el
theorem CovTo.none {l : List Stp} {el : Int} {j : Nat} (h : CovTo l el j) (hj : l.length ≤ j) : covF l el = none := by
  unfold covF
  rw [List.find?_eq_none]
  intro s hs
  obtain ⟨i, hi, rfl⟩ := List.getElem_of_mem hs
  simpa using h i l[i] (by omega) (List.getElem?_eq_getElem hi)
theorem CovTo.step {l : List Stp} {el : Int} {j : Nat} {s : Stp} (h : CovTo l el j) (hs : l[j]? = some s) (hn : s.el ≠ el) : CovTo l el (j + 1) := fun m t hm ht => by
  by_cases e : m = j
  · subst e; rw [hs] at ht; cases ht; exact hn
  · exact h m t (by omega) ht
theorem CovTo.some {l : List Stp} {el : Int} {j : Nat} {s : Stp} (h : CovTo l el j) (hs : l[j]? = some s) (he : s.el = el) : covF l el = some s := by
  unfold covF
  rw [List.find?_eq_some_iff_getElem]
  obtain ⟨hj, e⟩ := List.getElem?_eq_some_iff.1 hs
  exact ⟨by simp [he], j, hj, e, fun m hm => by simpa using h m l[m] hm (List.getElem?_eq_getElem (by omega))⟩
section
set_option maxHeartbeats 8000000
/-! ### the way from the beginning of the first step to the head -/
theorem rstretch_any (L : Lay) (A : Option Addr) (way : List Stp) (c : Nat) (head len : Int) (w : World) (hL : LayOk w L) (hE : ElsOk L.els) (hr : Rd w A 3 Stc way) (hin : WayIn L.els way) (hm : way.length ≤ 200) (hh : 0 ≤ head ∧ head ≤ 1000000) : Calls Tryd.prog 52 #[.agg #[.string L.name, .slice L.aS L.secs.length L.cS, .slice L.aE L.els.length L.cE, .slice L.aJ L.jts.length L.cJ, .slice L.aG L.sgs.length L.cG, .slice L.aB L.bals.length L.cB], .agg #[.slice A way.length c, .int .i64 head, .int .i64 len]] w fun e w' => e = .returned (.int .i64 (strV L.els way head)) ∧ Below w.heap.size w w' := by
  have HL := Lib.hid hL
  have HE := Lib.hid hE
  have HR := Lib.hid hr
  have HI := Lib.hid hin
  have HH := Lib.hid hh
  clear hL hE hr hin hh
  go_enter Tryd.func52, Tryd.ntmps52
  go_wp2
  go_loopg [5, 6] way.length (fun g x5 ix wr => ∃ (k : Nat) (v : Int), ix = .int .i64 k ∧ x5 = .int .i64 v ∧ k ≤ way.length - 1 ∧ g = way.length - k ∧ Hid (Ext w wr ∧ LayAt wr w.heap.size L ∧ BdyAt wr (w.heap.size + 1) A way c head len ∧ v = sumL L.els (way.take k) + head))
  case atStart => exact ⟨0, head, rfl, rfl, by omega, by omega, eal (eal (Ext.refl _) _) _, CellsAt.keep (CellsAt.new rfl) (eal (Ext.refl _) _), CellsAt.new (by simp), by simp [sumL]⟩
  case round =>
    obtain ⟨k, v, rfl, rfl, hk, hg, H⟩ := hrel
    have HG := Lib.hid hg
    clear hg
    obtain ⟨b0, b1, b2, b3⟩ := bdyAt_cells H.out.2.2.1
    have HK := Lib.hid hk
    have n1 : IntKind.i64.wrap ((k : Int) + 1) = (k : Int) + 1 := IntWalk.i64_in _ (by omega)
    by_cases hlt : k + 1 < way.length
    · obtain ⟨bw, ow, s, rfl, hs, hbs, s0, s1, s2⟩ := rd_st HR.out H.out.1 (show k < way.length by omega)
      have q1 : decide ((k : Int) + 1 < (way.length : Int)) = true := decide_eq_true (by omega)
      have hkl : k < way.length := by omega
      have hs1 := len_bd HE.out (HI.out k s hs)
      have hv := sumL_bd HE.out (wayIn_take HI.out k)
      have hv2 : (1000000 : Int) * ((way.take k).length : Int) ≤ 200000000 := by simp; omega
      have hv0 := H.out.2.2.2
      have hh := HH.out
      have HN : Hid (v + lenOf L.els s = sumL L.els (way.take (k + 1)) + head) := by
        show _ = _
        rw [sumL_take L.els hs, hv0]; omega
      have n2 : IntKind.i64.wrap (v + lenOf L.els s) = v + lenOf L.els s := IntWalk.i64_in _ (by omega)
      have HSL := Lib.hid (HI.out k s hs)
      obtain ⟨l0, a0, a1, a2, a3, a4, a5⟩ := layAt_cells H.out.2.1
      have hlo : LayOk wr L := HL.out.keep H.out.1
      have HLO := Lib.hid hlo
      clear hs hs1 hv hv2 hv0 hh hlo hk
      go_wp2
      refine wp_region_after (by kernel_rfl) (by kernel_rfl) ?_
      repeat (first | go_big_quiet_step ((first | (go_at_call 68; exact after_call _ (rlong_any L s _ (HLO.out.keep (After.is _)) HSL.out)))))
      refine wpQuiet_nil ?_
      rintro _ ⟨y, rfl⟩
      go_wp2
      go_roundg (way.length - (k + 1))
      case measure => have := HG.out; omega
      case rel => exact ⟨k + 1, v + lenOf L.els s, by go_num, by go_num, by omega, rfl, etr H.out.1 y.is, H.out.2.1.keep y.is, H.out.2.2.1.keep y.is, HN.out⟩
    · have q1 : decide ((k : Int) + 1 < (way.length : Int)) = false := decide_eq_false (by omega)
      have HN : Hid (v = strV L.els way head) := by
        have := H.out.2.2.2
        have e : k = way.length - 1 := by omega
        rw [e] at this
        exact this
      clear hk
      go_wp2
      go_ret
      exact ⟨ret_int HN.out, H.out.1⟩
/-! ### where the rear lies -/
theorem rear_any (L : Lay) (A : Option Addr) (way : List Stp) (c : Nat) (head len : Int) (w : World) (hL : LayOk w L) (hE : ElsOk L.els) (hr : Rd w A 3 Stc way) (hin : WayIn L.els way) (hm : way.length ≤ 200) (h0 : 0 < way.length) (hc : way.length ≤ c) (hh : 0 ≤ head ∧ head ≤ 1000000) (hl : 1 ≤ len ∧ len ≤ 1000000) : Calls Tryd.prog 56 #[.agg #[.string L.name, .slice L.aS L.secs.length L.cS, .slice L.aE L.els.length L.cE, .slice L.aJ L.jts.length L.cJ, .slice L.aG L.sgs.length L.cG, .slice L.aB L.bals.length L.cB], .agg #[.slice A way.length c, .int .i64 head, .int .i64 len]] w fun e w' => e = .returned (.int .i64 (rearV L.els way head len)) ∧ Below w.heap.size w w' := by
  have HL := Lib.hid hL
  have HE := Lib.hid hE
  have HR := Lib.hid hr
  have HI := Lib.hid hin
  have hv := sumL_bd hE (wayIn_take hin (way.length - 1))
  have hv2 : (1000000 : Int) * ((way.take (way.length - 1)).length : Int) ≤ 200000000 := by simp; omega
  have hlen : (way.take (way.length - 1)).length = way.length - 1 := by simp
  have HLN := Lib.hid hlen
  have HV : Hid (sumL L.els (way.take (way.length - 1)) + head - len = rearV L.els way head len) := rfl
  generalize hsum : sumL L.els (way.take (way.length - 1)) = sm at hv HV
  have HSM := Lib.hid hsum
  have n1 : IntKind.i64.wrap ((way.length : Int) - 1) = (way.length : Int) - 1 := IntWalk.i64_in _ (by omega)
  have n2 : (0 : Int) ≤ (way.length : Int) - 1 := by omega
  have n3 : IntKind.i64.wrap (sm + head) = sm + head := IntWalk.i64_in _ (by omega)
  have n4 : IntKind.i64.wrap (sm + head - len) = sm + head - len := IntWalk.i64_in _ (by omega)
  have n5 : ((way.length - 1 : Nat) : Int) = (way.length : Int) - 1 := by omega
  have n6 : way.length - 1 ≤ c := by omega
  have hsl := fun w => sl_st A way.length c (way.length - 1) ((way.length : Int) - 1) n5.symm n6 w
  have HC : Hid (∀ w' : World, Ext w w' → Calls Tryd.prog 84 #[.agg #[.string L.name, .slice L.aS L.secs.length L.cS, .slice L.aE L.els.length L.cE, .slice L.aJ L.jts.length L.cJ, .slice L.aG L.sgs.length L.cG, .slice L.aB L.bals.length L.cB], .slice A (way.length - 1) c] w' fun e w2 => e = .returned (.int .i64 sm) ∧ Below w'.heap.size w' w2) := fun w' h' => by
    have := length_any L A (way.take (way.length - 1)) c w' (HL.out.keep h') HE.out (rd_take (HR.out.keep h') _) (wayIn_take HI.out _) (by rw [HLN.out]; omega)
    rw [HLN.out, HSM.out] at this
    exact this
  clear hL hE hr hin hv hv2 hlen hsum n5
  go_enter Tryd.func56, Tryd.ntmps56
  go_upto_region 1 with (fail)
  refine wp_region_after (by kernel_rfl) (by kernel_rfl) ?_
  repeat (first | go_big_quiet_step ((first | (go_at_call 84; exact after_call _ (HC.out _ (etr (eal (eal (Ext.refl _) _) _) (After.is _)))))))
  refine wpQuiet_nil ?_
  rintro _ ⟨y, rfl⟩
  go_wp2
  go_ret
  exact ⟨ret_int HV.out, etr (eal (eal (Ext.refl _) _) _) y.is⟩
/-! ### the section of an element -/
theorem sect_any (L : Lay) (el : Int) (w : World) (hL : LayOk w L) : Calls Tryd.prog 62 #[.agg #[.string L.name, .slice L.aS L.secs.length L.cS, .slice L.aE L.els.length L.cE, .slice L.aJ L.jts.length L.cJ, .slice L.aG L.sgs.length L.cG, .slice L.aB L.bals.length L.cB], .int .i64 el] w fun e w' => e = .returned (.int .i64 (secV L.els el)) ∧ Below w.heap.size w w' := by
  have HL := Lib.hid hL
  clear hL
  by_cases k1 : el < 0
  · have HV : Hid (secV L.els el = -1) := by show _ = _; unfold secV; rw [hasB_low k1]; rfl
    have q1 : decide (el < 0) = true := decide_eq_true k1
    clear k1
    go_enter Tryd.func62, Tryd.ntmps62
    go_wp2
    go_ret
    exact ⟨ret_int HV.out.symm, eal (Ext.refl _) _⟩
  have q1 : decide (el < 0) = false := decide_eq_false k1
  by_cases k2 : (L.els.length : Int) ≤ el
  · have HV : Hid (secV L.els el = -1) := by show _ = _; unfold secV; rw [hasB_high k2]; rfl
    have q2 : decide ((L.els.length : Int) ≤ el) = true := decide_eq_true k2
    clear k1 k2
    go_enter Tryd.func62, Tryd.ntmps62
    go_wp2
    go_ret
    exact ⟨ret_int HV.out.symm, eal (Ext.refl _) _⟩
  · obtain ⟨k, rfl⟩ : ∃ k : Nat, el = (k : Int) := ⟨el.toNat, by omega⟩
    have hlt : k < L.els.length := by omega
    obtain ⟨b, off, x, hA, hs, hbl, c0, c1, c2, c3, c4, c5, c6⟩ := rd_el HL.out.hE (Ext.refl w) hlt
    have HV : Hid (secV L.els (k : Int) = x.sec) := by show _ = _; unfold secV; rw [hasB_true (by omega) (by omega), if_pos rfl, elAt_of hs]
    have q2 : decide (L.els.length ≤ k) = false := decide_eq_false (by omega)
    have q3 : decide ((L.els.length : Int) ≤ (k : Int)) = false := decide_eq_false (by omega)
    have hbl1 : b < w.heap.size + 1 := by omega
    have HLm := Lib.hid HL.out.lE
    clear c0 c1 c2 c3 c4 c5 hs k1 k2
    rw [hA]
    clear hA
    go_enter Tryd.func62, Tryd.ntmps62
    go_wp2
    go_ret
    exact ⟨ret_int HV.out.symm, eal (Ext.refl _) _⟩
end
end Go.Proofs.YticonpjkcocgeaaDoor

set_option linter.unusedVariables false
set_option linter.unusedSimpArgs false
set_option maxRecDepth 100000
namespace Go.Proofs.YticonpjkcocgeaaDoor
open Go.ChangeShapes Go.WideShapes Go.ChangeAt Go.RowKit
open Sg

theorem szEnd : (Tryd.prog.info? 110).map (·.size) = some 2 := by kernel_rfl
theorem szStp : (Tryd.prog.info? 75).map (·.size) = some 3 := by kernel_rfl
section
set_option maxHeartbeats 8000000
theorem next_any (L : Lay) (s : Stp) (w : World) (hL : LayOk w L) : Calls Tryd.prog 61 #[.agg #[.string L.name, .slice L.aS L.secs.length L.cS, .slice L.aE L.els.length L.cE, .slice L.aJ L.jts.length L.cJ, .slice L.aG L.sgs.length L.cG, .slice L.aB L.bals.length L.cB], .agg #[.int .i64 s.el, .int .i64 s.in_, .int .i64 s.out_]] w fun r w' => r = .returned (.tuple #[.agg #[.int .i64 (joinV L.jts (nextE s)).el, .int .i64 (joinV L.jts (nextE s)).side], .bool (joinB L.jts (nextE s))]) ∧ Below w.heap.size w w' := by
  have HL := Lib.hid hL
  clear hL
  go_enter Tryd.func61, Tryd.ntmps61
  go_upto_region 1 with (fail)
  refine wp_region_orders 8 rfl (by kernel_rfl) (fun wd hwd => ?_)
  obtain ⟨x, rfl⟩ : ∃ x : After _, wd = x.val := ⟨⟨wd, hwd⟩, rfl⟩
  have gx : w.heap.size + 1 + 1 < x.val.heap.size := by have h := x.is.size; simp at h; omega
  have gx1 : w.heap.size + 1 < x.val.heap.size := by omega
  have gx0 : w.heap.size < x.val.heap.size := by omega
  have EX : Hid (Ext w x.val) := etr (eal (eal (eal (Ext.refl _) _) _) _) x.is
  have HOx : Hid (Own x.val (w.heap.size + 1 + 1) [.int .i64 0, .int .i64 0]) := (Own.new (by simp)).keep x.is
  clear hwd
  refine wpAny_go (rs := [0, 2]) (by kernel_rfl) (by simp) (AllO.cons rfl rfl (fun K hK => ?_) (AllO.cons rfl rfl (fun K hK => ?_) (AllO.nil)))
  · go_simp
    refine hK _ _ ?_
    clear hK K
    refine wpAny_go (rs := [1, 2]) (by kernel_rfl) (by simp) (AllO.cons rfl rfl (fun K hK => ?_) (AllO.cons rfl rfl (fun K hK => ?_) (AllO.nil)))
    · go_simp
      go_wp2_with fail
      refine (passage_any L _).mono ?_
      rintro e w1 ⟨rfl, rfl⟩
      go_wp2_with fail
      (try refine hK _ _ ?_)
      (try clear hK)
      (try clear K)
      refine wpAny_go (rs := [2]) (by kernel_rfl) (by simp) (AllO.cons rfl rfl (fun K hK => ?_) (AllO.nil))
      go_simp
      refine hK _ _ ?_
      clear hK K
      have HC : Hid (CellsAt (x.val.alloc (.cells #[.string L.name, .slice L.aS L.secs.length L.cS, .slice L.aE L.els.length L.cE, .slice L.aJ L.jts.length L.cJ, .slice L.aG L.sgs.length L.cG, .slice L.aB L.bals.length L.cB] 28)) x.val.heap.size [.string L.name, .slice L.aS L.secs.length L.cS, .slice L.aE L.els.length L.cE, .slice L.aJ L.jts.length L.cJ, .slice L.aG L.sgs.length L.cG, .slice L.aB L.bals.length L.cB]) := CellsAt.new rfl
      refine wpAny_go (rs := [3]) (by kernel_rfl) (by simp) (AllO.cons rfl rfl (fun K hK => ?_) (AllO.nil))
      go_simp
      go_wp2_with fail
      refine (pass_any L s x.val.heap.size _ (HL.out.keep (eal EX.out _)) HC.out).mono ?_
      rintro e w2 ⟨rfl, hb⟩
      have HO2 : Hid (Own w2 (w.heap.size + 1 + 1) [.int .i64 0, .int .i64 0]) := (HOx.out.alloc _).keep hb
      have E2 : Hid (Ext w w2) := etr (eal EX.out _) hb
      go_wp2_with fail
      (try refine hK _ _ ?_)
      (try clear hK)
      (try clear K)
      refine wpAny_go (rs := [4, 5]) (by kernel_rfl) (by simp) (AllO.cons rfl rfl (fun K hK => ?_) (AllO.cons rfl rfl (fun K hK => ?_) (AllO.nil)))
      · go_simp
        refine hK _ _ ?_
        clear hK K
        refine wpAny_go (rs := [5]) (by kernel_rfl) (by simp) (AllO.cons rfl rfl (fun K hK => ?_) (AllO.nil))
        go_simp
        refine hK _ _ ?_
        clear hK K
        refine wpAny_go (rs := [6]) (by kernel_rfl) (by simp) (AllO.cons rfl rfl (fun K hK => ?_) (AllO.nil))
        refine wpo_stN 110 [.int .i64 (joinV L.jts (nextE s)).el, .int .i64 (joinV L.jts (nextE s)).side] [.int .i64 (joinV L.jts (nextE s)).el, .int .i64 (joinV L.jts (nextE s)).side] rfl rfl HO2.out rfl szEnd rfl (by show (0 + 2 : Nat) ≤ 2; decide) rfl ?_; intro w4 H4
        refine hK _ _ ?_
        clear hK K
        refine wpAny_go (rs := [7]) (by kernel_rfl) (by simp) (AllO.cons rfl rfl (fun K hK => ?_) (AllO.nil))
        go_simp
        refine hK _ _ ?_
        clear hK K
        refine wpAny_end (by kernel_rfl) ?_
        go_wp2
        exact bodyPost_ret (res_ct (by rfl) (by rfl) (by rfl) H4.out.1.cells Tryd.underlying110 szEnd) rfl ⟨rfl, eonly E2.out H4.out.2 (by omega)⟩
      · go_simp
        refine hK _ _ ?_
        clear hK K
        refine wpAny_go (rs := [4]) (by kernel_rfl) (by simp) (AllO.cons rfl rfl (fun K hK => ?_) (AllO.nil))
        go_simp
        refine hK _ _ ?_
        clear hK K
        refine wpAny_go (rs := [6]) (by kernel_rfl) (by simp) (AllO.cons rfl rfl (fun K hK => ?_) (AllO.nil))
        refine wpo_stN 110 [.int .i64 (joinV L.jts (nextE s)).el, .int .i64 (joinV L.jts (nextE s)).side] [.int .i64 (joinV L.jts (nextE s)).el, .int .i64 (joinV L.jts (nextE s)).side] rfl rfl HO2.out rfl szEnd rfl (by show (0 + 2 : Nat) ≤ 2; decide) rfl ?_; intro w4 H4
        refine hK _ _ ?_
        clear hK K
        refine wpAny_go (rs := [7]) (by kernel_rfl) (by simp) (AllO.cons rfl rfl (fun K hK => ?_) (AllO.nil))
        go_simp
        refine hK _ _ ?_
        clear hK K
        refine wpAny_end (by kernel_rfl) ?_
        go_wp2
        exact bodyPost_ret (res_ct (by rfl) (by rfl) (by rfl) H4.out.1.cells Tryd.underlying110 szEnd) rfl ⟨rfl, eonly E2.out H4.out.2 (by omega)⟩
    · go_simp
      refine hK _ _ ?_
      clear hK K
      refine wpAny_go (rs := [1]) (by kernel_rfl) (by simp) (AllO.cons rfl rfl (fun K hK => ?_) (AllO.nil))
      go_simp
      go_wp2_with fail
      refine (passage_any L _).mono ?_
      rintro e w1 ⟨rfl, rfl⟩
      go_wp2_with fail
      (try refine hK _ _ ?_)
      (try clear hK)
      (try clear K)
      have HC : Hid (CellsAt (x.val.alloc (.cells #[.string L.name, .slice L.aS L.secs.length L.cS, .slice L.aE L.els.length L.cE, .slice L.aJ L.jts.length L.cJ, .slice L.aG L.sgs.length L.cG, .slice L.aB L.bals.length L.cB] 28)) x.val.heap.size [.string L.name, .slice L.aS L.secs.length L.cS, .slice L.aE L.els.length L.cE, .slice L.aJ L.jts.length L.cJ, .slice L.aG L.sgs.length L.cG, .slice L.aB L.bals.length L.cB]) := CellsAt.new rfl
      refine wpAny_go (rs := [3]) (by kernel_rfl) (by simp) (AllO.cons rfl rfl (fun K hK => ?_) (AllO.nil))
      go_simp
      go_wp2_with fail
      refine (pass_any L s x.val.heap.size _ (HL.out.keep (eal EX.out _)) HC.out).mono ?_
      rintro e w2 ⟨rfl, hb⟩
      have HO2 : Hid (Own w2 (w.heap.size + 1 + 1) [.int .i64 0, .int .i64 0]) := (HOx.out.alloc _).keep hb
      have E2 : Hid (Ext w w2) := etr (eal EX.out _) hb
      go_wp2_with fail
      (try refine hK _ _ ?_)
      (try clear hK)
      (try clear K)
      refine wpAny_go (rs := [4, 5]) (by kernel_rfl) (by simp) (AllO.cons rfl rfl (fun K hK => ?_) (AllO.cons rfl rfl (fun K hK => ?_) (AllO.nil)))
      · go_simp
        refine hK _ _ ?_
        clear hK K
        refine wpAny_go (rs := [5]) (by kernel_rfl) (by simp) (AllO.cons rfl rfl (fun K hK => ?_) (AllO.nil))
        go_simp
        refine hK _ _ ?_
        clear hK K
        refine wpAny_go (rs := [6]) (by kernel_rfl) (by simp) (AllO.cons rfl rfl (fun K hK => ?_) (AllO.nil))
        refine wpo_stN 110 [.int .i64 (joinV L.jts (nextE s)).el, .int .i64 (joinV L.jts (nextE s)).side] [.int .i64 (joinV L.jts (nextE s)).el, .int .i64 (joinV L.jts (nextE s)).side] rfl rfl HO2.out rfl szEnd rfl (by show (0 + 2 : Nat) ≤ 2; decide) rfl ?_; intro w4 H4
        refine hK _ _ ?_
        clear hK K
        refine wpAny_go (rs := [7]) (by kernel_rfl) (by simp) (AllO.cons rfl rfl (fun K hK => ?_) (AllO.nil))
        go_simp
        refine hK _ _ ?_
        clear hK K
        refine wpAny_end (by kernel_rfl) ?_
        go_wp2
        exact bodyPost_ret (res_ct (by rfl) (by rfl) (by rfl) H4.out.1.cells Tryd.underlying110 szEnd) rfl ⟨rfl, eonly E2.out H4.out.2 (by omega)⟩
      · go_simp
        refine hK _ _ ?_
        clear hK K
        refine wpAny_go (rs := [4]) (by kernel_rfl) (by simp) (AllO.cons rfl rfl (fun K hK => ?_) (AllO.nil))
        go_simp
        refine hK _ _ ?_
        clear hK K
        refine wpAny_go (rs := [6]) (by kernel_rfl) (by simp) (AllO.cons rfl rfl (fun K hK => ?_) (AllO.nil))
        refine wpo_stN 110 [.int .i64 (joinV L.jts (nextE s)).el, .int .i64 (joinV L.jts (nextE s)).side] [.int .i64 (joinV L.jts (nextE s)).el, .int .i64 (joinV L.jts (nextE s)).side] rfl rfl HO2.out rfl szEnd rfl (by show (0 + 2 : Nat) ≤ 2; decide) rfl ?_; intro w4 H4
        refine hK _ _ ?_
        clear hK K
        refine wpAny_go (rs := [7]) (by kernel_rfl) (by simp) (AllO.cons rfl rfl (fun K hK => ?_) (AllO.nil))
        go_simp
        refine hK _ _ ?_
        clear hK K
        refine wpAny_end (by kernel_rfl) ?_
        go_wp2
        exact bodyPost_ret (res_ct (by rfl) (by rfl) (by rfl) H4.out.1.cells Tryd.underlying110 szEnd) rfl ⟨rfl, eonly E2.out H4.out.2 (by omega)⟩
  · go_simp
    refine hK _ _ ?_
    clear hK K
    refine wpAny_go (rs := [0]) (by kernel_rfl) (by simp) (AllO.cons rfl rfl (fun K hK => ?_) (AllO.nil))
    go_simp
    refine hK _ _ ?_
    clear hK K
    refine wpAny_go (rs := [1]) (by kernel_rfl) (by simp) (AllO.cons rfl rfl (fun K hK => ?_) (AllO.nil))
    go_simp
    go_wp2_with fail
    refine (passage_any L _).mono ?_
    rintro e w1 ⟨rfl, rfl⟩
    go_wp2_with fail
    (try refine hK _ _ ?_)
    (try clear hK)
    (try clear K)
    have HC : Hid (CellsAt (x.val.alloc (.cells #[.string L.name, .slice L.aS L.secs.length L.cS, .slice L.aE L.els.length L.cE, .slice L.aJ L.jts.length L.cJ, .slice L.aG L.sgs.length L.cG, .slice L.aB L.bals.length L.cB] 28)) x.val.heap.size [.string L.name, .slice L.aS L.secs.length L.cS, .slice L.aE L.els.length L.cE, .slice L.aJ L.jts.length L.cJ, .slice L.aG L.sgs.length L.cG, .slice L.aB L.bals.length L.cB]) := CellsAt.new rfl
    refine wpAny_go (rs := [3]) (by kernel_rfl) (by simp) (AllO.cons rfl rfl (fun K hK => ?_) (AllO.nil))
    go_simp
    go_wp2_with fail
    refine (pass_any L s x.val.heap.size _ (HL.out.keep (eal EX.out _)) HC.out).mono ?_
    rintro e w2 ⟨rfl, hb⟩
    have HO2 : Hid (Own w2 (w.heap.size + 1 + 1) [.int .i64 0, .int .i64 0]) := (HOx.out.alloc _).keep hb
    have E2 : Hid (Ext w w2) := etr (eal EX.out _) hb
    go_wp2_with fail
    (try refine hK _ _ ?_)
    (try clear hK)
    (try clear K)
    refine wpAny_go (rs := [4, 5]) (by kernel_rfl) (by simp) (AllO.cons rfl rfl (fun K hK => ?_) (AllO.cons rfl rfl (fun K hK => ?_) (AllO.nil)))
    · go_simp
      refine hK _ _ ?_
      clear hK K
      refine wpAny_go (rs := [5]) (by kernel_rfl) (by simp) (AllO.cons rfl rfl (fun K hK => ?_) (AllO.nil))
      go_simp
      refine hK _ _ ?_
      clear hK K
      refine wpAny_go (rs := [6]) (by kernel_rfl) (by simp) (AllO.cons rfl rfl (fun K hK => ?_) (AllO.nil))
      refine wpo_stN 110 [.int .i64 (joinV L.jts (nextE s)).el, .int .i64 (joinV L.jts (nextE s)).side] [.int .i64 (joinV L.jts (nextE s)).el, .int .i64 (joinV L.jts (nextE s)).side] rfl rfl HO2.out rfl szEnd rfl (by show (0 + 2 : Nat) ≤ 2; decide) rfl ?_; intro w4 H4
      refine hK _ _ ?_
      clear hK K
      refine wpAny_go (rs := [7]) (by kernel_rfl) (by simp) (AllO.cons rfl rfl (fun K hK => ?_) (AllO.nil))
      go_simp
      refine hK _ _ ?_
      clear hK K
      refine wpAny_end (by kernel_rfl) ?_
      go_wp2
      exact bodyPost_ret (res_ct (by rfl) (by rfl) (by rfl) H4.out.1.cells Tryd.underlying110 szEnd) rfl ⟨rfl, eonly E2.out H4.out.2 (by omega)⟩
    · go_simp
      refine hK _ _ ?_
      clear hK K
      refine wpAny_go (rs := [4]) (by kernel_rfl) (by simp) (AllO.cons rfl rfl (fun K hK => ?_) (AllO.nil))
      go_simp
      refine hK _ _ ?_
      clear hK K
      refine wpAny_go (rs := [6]) (by kernel_rfl) (by simp) (AllO.cons rfl rfl (fun K hK => ?_) (AllO.nil))
      refine wpo_stN 110 [.int .i64 (joinV L.jts (nextE s)).el, .int .i64 (joinV L.jts (nextE s)).side] [.int .i64 (joinV L.jts (nextE s)).el, .int .i64 (joinV L.jts (nextE s)).side] rfl rfl HO2.out rfl szEnd rfl (by show (0 + 2 : Nat) ≤ 2; decide) rfl ?_; intro w4 H4
      refine hK _ _ ?_
      clear hK K
      refine wpAny_go (rs := [7]) (by kernel_rfl) (by simp) (AllO.cons rfl rfl (fun K hK => ?_) (AllO.nil))
      go_simp
      refine hK _ _ ?_
      clear hK K
      refine wpAny_end (by kernel_rfl) ?_
      go_wp2
      exact bodyPost_ret (res_ct (by rfl) (by rfl) (by rfl) H4.out.1.cells Tryd.underlying110 szEnd) rfl ⟨rfl, eonly E2.out H4.out.2 (by omega)⟩
/-! ### the side that a train leaves by -/
theorem out_any (k i p : Int) (w : World) (hT : Tabs w) : Calls Tryd.prog 64 #[.int .i64 k, .int .i64 i, .int .i64 p] w fun e w' => e = .returned (.tuple #[.int .i64 (outV k i p), .bool (outB k i p)]) ∧ Below w.heap.size w w' := by
  have HT : Hid (Tabs w) := hT
  clear hT
  go_enter Tryd.func64, Tryd.ntmps64
  go_upto_region 1 with (fail)
  apply wp_region_lit
  refine wpList_load_mid rfl 150 _ rfl 0 0 rfl pasL _ (fun j v hj => by rw [Nat.zero_add]; exact HT.out.2 j v hj) Tryd.underlying150 rfl (by kernel_rfl) ?_
  have hpv : Value.agg pasL.toArray = pasV := rfl
  rw [hpv]
  clear HT hpv
  go_wp2
  go_loopg [11] 10 (fun g ix wr => ∃ j : Nat, ix = .int .i64 j ∧ j ≤ 10 ∧ g = 10 - j ∧ Hid (Ext w wr ∧ OutTo k i p j))
  case atStart => exact ⟨0, rfl, by omega, rfl, Ext.refl _, fun m a b c n hm => absurd hm (by omega)⟩
  case round =>
    obtain ⟨j, rfl, hj, hg, H⟩ := hrel
    have HG := Lib.hid hg
    clear hg
    by_cases hlt : j < 10
    · obtain ⟨a, b, c, n, hr⟩ := rows_get hlt
      have HR := Lib.hid hr
      have hx := idx_pas hr wr
      clear hr
      by_cases q1 : k = a
      · subst q1
        by_cases q2 : i = b
        · subst q2
          by_cases q3 : n = 0
          · subst q3
            have HN : Hid (outO k i p = some c) := rows_out HR.out p (.inl rfl)
            go_wp2
            go_ret2
            exact ⟨ret_ib (by rw [outV, HN.out]; rfl) (by rw [outB, HN.out]; rfl), eal H.out.1 _⟩
          by_cases q4 : n = p
          · subst q4
            have HN : Hid (outO k i n = some c) := rows_out HR.out n (.inr rfl)
            have p3 : (n == 0) = false := by simp; omega
            clear q3
            go_wp2
            go_ret2
            exact ⟨ret_ib (by rw [outV, HN.out]; rfl) (by rw [outB, HN.out]; rfl), eal H.out.1 _⟩
          · have HN : Hid (OutTo k i p (j + 1)) := H.out.2.step HR.out (fun h => by rcases h.2.2 with h | h; exact q3 h; exact q4 h)
            have p3 : (n == 0) = false := by simp; omega
            have p4 : (n == p) = false := by simp; omega
            clear q3 q4
            go_wp2
            go_roundg (10 - (j + 1))
            case measure => have := HG.out; omega
            case rel => exact ⟨j + 1, rfl, by omega, rfl, eal H.out.1 _, HN.out⟩
        · have HN : Hid (OutTo k i p (j + 1)) := H.out.2.step HR.out (fun h => q2 h.2.1)
          have p2 : (b == i) = false := by simp; omega
          clear q2
          go_wp2
          go_roundg (10 - (j + 1))
          case measure => have := HG.out; omega
          case rel => exact ⟨j + 1, rfl, by omega, rfl, eal H.out.1 _, HN.out⟩
      · have HN : Hid (OutTo k i p (j + 1)) := H.out.2.step HR.out (fun h => q1 h.1)
        have p1 : (a == k) = false := by simp; omega
        clear q1
        go_wp2
        go_roundg (10 - (j + 1))
        case measure => have := HG.out; omega
        case rel => exact ⟨j + 1, rfl, by omega, rfl, eal H.out.1 _, HN.out⟩
    · have e : j = 10 := by omega
      subst e
      have HN : Hid (outO k i p = none) := H.out.2.none
      go_wp2
      go_ret2
      exact ⟨ret_ib (by rw [outV, HN.out]; rfl) (by rw [outB, HN.out]; rfl), H.out.1⟩
theorem rout_any (k i p : Int) (w : World) : Calls Tryd.prog 100 #[.int .i64 k, .int .i64 i, .int .i64 p] w fun e w' => e = .returned (.tuple #[.int .i64 (outV k i p), .bool (outB k i p)]) ∧ Below w.heap.size w w' := by
  go_enter Tryd.func100, Tryd.ntmps100
  go_wp2
  go_loopg [8] 4 (fun g ix wr => ∃ j : Nat, ix = .int .i64 j ∧ j ≤ 4 ∧ g = 4 - j ∧ Hid (Ext w wr ∧ SideTo k i p j))
  case atStart => exact ⟨0, rfl, by omega, rfl, Ext.refl _, fun m hm => absurd hm (by omega)⟩
  case round =>
    obtain ⟨j, rfl, hj, hg, H⟩ := hrel
    have HG := Lib.hid hg
    clear hg
    by_cases hlt : j < 4
    · have qj : decide ((j : Int) < 4) = true := decide_eq_true (by omega)
      cases hb : needB k i j
      · have HN : Hid (SideTo k i p (j + 1)) := H.out.2.step (fun h => by rw [hb] at h; cases h.1)
        have HB := Lib.hid hb
        clear hb
        go_wp2_with (go_at_call 110; refine (to_after (rneed_any k i j _)).mono ?_; rw [HB.out]; rintro e w' ⟨y, rfl, rfl⟩)
        go_roundg (4 - (j + 1))
        case measure => have := HG.out; omega
        case rel => exact ⟨j + 1, by go_num, by omega, rfl, etr H.out.1 y.is, HN.out⟩
      · have HB := Lib.hid hb
        clear hb
        generalize hn : needV k i j = n
        have HNV := Lib.hid hn
        clear hn
        by_cases q3 : n = 0
        · have HN : Hid (outO k i p = some (j : Int)) := side_yes HB.out (.inl (HNV.out.trans q3))
          subst q3
          go_wp2_with (go_at_call 110; refine (to_after (rneed_any k i j _)).mono ?_; rw [HB.out, HNV.out]; rintro e w' ⟨y, rfl, rfl⟩)
          go_ret2
          exact ⟨ret_ib (by rw [outV, HN.out]; rfl) (by rw [outB, HN.out]; rfl), etr H.out.1 y.is⟩
        by_cases q4 : n = p
        · have HN : Hid (outO k i p = some (j : Int)) := side_yes HB.out (.inr (HNV.out.trans q4))
          subst q4
          have p3 : (n == 0) = false := by simp; omega
          clear q3
          go_wp2_with (go_at_call 110; refine (to_after (rneed_any k i j _)).mono ?_; rw [HB.out, HNV.out]; rintro e w' ⟨y, rfl, rfl⟩)
          go_ret2
          exact ⟨ret_ib (by rw [outV, HN.out]; rfl) (by rw [outB, HN.out]; rfl), etr H.out.1 y.is⟩
        · have HN : Hid (SideTo k i p (j + 1)) := H.out.2.step (fun h => by rw [HNV.out] at h; rcases h.2 with h | h; exact q3 h; exact q4 h)
          have p3 : (n == 0) = false := by simp; omega
          have p4 : (n == p) = false := by simp; omega
          clear q3 q4
          go_wp2_with (go_at_call 110; refine (to_after (rneed_any k i j _)).mono ?_; rw [HB.out, HNV.out]; rintro e w' ⟨y, rfl, rfl⟩)
          go_roundg (4 - (j + 1))
          case measure => have := HG.out; omega
          case rel => exact ⟨j + 1, by go_num, by omega, rfl, etr H.out.1 y.is, HN.out⟩
    · have e : j = 4 := by omega
      subst e
      have HN : Hid (outO k i p = none) := H.out.2.none
      go_wp2
      go_ret2
      exact ⟨ret_ib (by rw [outV, HN.out]; rfl) (by rw [outB, HN.out]; rfl), H.out.1⟩
/-! ### the position of points -/
theorem pos_any (A : Option Addr) (pos : List Int) (c : Nat) (el : Int) (w : World) (hr : RdI w A pos) (h0 : 0 ≤ el) (hm : pos.length ≤ maxLen) : Calls Tryd.prog 101 #[.slice A pos.length c, .int .i64 el] w fun e w' => e = .returned (.int .i64 (posAt pos el)) ∧ Below w.heap.size w w' := by
  unfold maxLen at hm
  obtain ⟨k, rfl⟩ : ∃ k : Nat, el = (k : Int) := ⟨el.toNat, by omega⟩
  by_cases hlt : k < pos.length
  · obtain ⟨b, off, rfl, hb, hc⟩ := hr (by omega)
    have c0 := hc k hlt
    have HV : Hid (posAt pos (k : Int) = pos.getD k 0) := by show _ = _; unfold posAt; rw [if_pos (by omega), Int.toNat_natCast]
    have q1 : decide ((k : Int) < (pos.length : Int)) = true := decide_eq_true (by omega)
    generalize hv : pos.getD k 0 = v at c0 HV
    clear hr hc hv
    go_enter Tryd.func101, Tryd.ntmps101
    go_wp2
    go_ret
    exact ⟨ret_int HV.out.symm, Ext.refl _⟩
  · have HV : Hid (posAt pos (k : Int) = 0) := by show _ = _; unfold posAt; rw [if_neg (by omega)]
    have q1 : decide ((k : Int) < (pos.length : Int)) = false := decide_eq_false (by omega)
    have q2 : ¬ k < pos.length := hlt
    clear hr
    go_enter Tryd.func101, Tryd.ntmps101
    go_wp2
    go_ret
    exact ⟨ret_int HV.out.symm, Ext.refl _⟩
/-! ### the step over an element -/
theorem cov_ret {way : List Stp} {el : Int} {s : Stp} (h : covF way el = some s) : Ending.returned (.tuple #[.agg #[.int .i64 s.el, .int .i64 s.in_, .int .i64 s.out_], .bool true]) = .returned (.tuple #[.agg #[.int .i64 (covS way el).el, .int .i64 (covS way el).in_, .int .i64 (covS way el).out_], .bool (covB way el)]) := by rw [covS, covB_is, h]; rfl
theorem cov_none {way : List Stp} {el : Int} (h : covF way el = none) : Ending.returned (.tuple #[.agg #[.int .i64 Stp.z.el, .int .i64 Stp.z.in_, .int .i64 Stp.z.out_], .bool false]) = .returned (.tuple #[.agg #[.int .i64 (covS way el).el, .int .i64 (covS way el).in_, .int .i64 (covS way el).out_], .bool (covB way el)]) := by rw [covS, covB_is, h]; rfl
theorem cov_any (A : Option Addr) (way : List Stp) (c : Nat) (head len el : Int) (w : World) (hr : Rd w A 3 Stc way) (hm : way.length ≤ maxLen) : Calls Tryd.prog 63 #[.agg #[.slice A way.length c, .int .i64 head, .int .i64 len], .int .i64 el] w fun e w' => e = .returned (.tuple #[.agg #[.int .i64 (covS way el).el, .int .i64 (covS way el).in_, .int .i64 (covS way el).out_], .bool (covB way el)]) ∧ Below w.heap.size w w' := by
  unfold maxLen at hm
  have HR := Lib.hid hr
  clear hr
  go_enter Tryd.func63, Tryd.ntmps63
  go_wp2
  go_loopg [11] way.length (fun g ix wr => ∃ k : Nat, ix = .int .i64 k ∧ k ≤ way.length ∧ g = way.length - k ∧ Hid (Ext w wr ∧ BdyAt wr w.heap.size A way c head len ∧ Own wr (w.heap.size + 1) [.int .i64 0, .int .i64 0, .int .i64 0] ∧ CovTo way el k))
  case atStart => exact ⟨0, rfl, by omega, rfl, eal (eal (Ext.refl _) _) _, CellsAt.keep (CellsAt.new rfl) (eal (Ext.refl _) _), Own.new (by simp), fun m s hm => absurd hm (by omega)⟩
  case round =>
    obtain ⟨k, rfl, hk, hg, H⟩ := hrel
    have HG := Lib.hid hg
    clear hg
    obtain ⟨o0, oc, of⟩ := H.out.2.2.1
    obtain ⟨b0, b1, b2, b3⟩ := bdyAt_cells H.out.2.1
    have z0 := oc 0 _ rfl
    have z1 := oc 1 _ rfl
    have z2 := oc 2 _ rfl
    have f0 := of 0
    have f1 := of 1
    have f2 := of 2
    clear oc of
    by_cases hlt : k < way.length
    · obtain ⟨bw, ow, s, rfl, hs, hbs, s0, s1, s2⟩ := rd_st HR.out H.out.1 hlt
      have q0 : decide ((k : Int) < (way.length : Int)) = true := decide_eq_true (by omega)
      have HS := Lib.hid hs
      clear hs
      by_cases he : s.el = el
      · have HN : Hid (covF way el = some s) := CovTo.some H.out.2.2.2 HS.out he
        have q1 : (s.el == el) = true := by simp [he]
        clear he
        go_wp2
        (try simp only [Exit.inBlock, Exit.then])
        exact bodyPost_ret (v := .tuple #[.agg #[.int .i64 s.el, .int .i64 s.in_, .int .i64 s.out_], .bool true]) (by simp [results, Tryd.results63, go_sem, o0, z0, z1, z2, f0, f1, f2]) rfl ⟨cov_ret HN.out, eal (eset (eset (eset H.out.1 (by omega) _ _) (by omega) _ _) (by omega) _ _) _⟩
      · have HN : Hid (CovTo way el (k + 1)) := CovTo.step H.out.2.2.2 HS.out he
        have q1 : (s.el == el) = false := by simpa using he
        have HX : Hid (Own wr (w.heap.size + 1) [.int .i64 0, .int .i64 0, .int .i64 0]) := H.out.2.2.1
        clear he
        go_wp2
        go_roundg (way.length - (k + 1))
        case measure => have := HG.out; omega
        case rel => exact ⟨k + 1, by go_num, by omega, rfl, eal H.out.1 _, H.out.2.1.keep (eal (Ext.refl _) _), HX.out.keep (eal (Ext.refl _) _), HN.out⟩
    · have HN : Hid (covF way el = none) := CovTo.none H.out.2.2.2 (by omega)
      have q0 : decide ((k : Int) < (way.length : Int)) = false := decide_eq_false (by omega)
      go_wp2
      (try simp only [Exit.inBlock, Exit.then])
      exact bodyPost_ret (v := .tuple #[.agg #[.int .i64 Stp.z.el, .int .i64 Stp.z.in_, .int .i64 Stp.z.out_], .bool false]) (by simp [results, Tryd.results63, go_sem, o0, z0, z1, z2, f0, f1, f2, Stp.z]) rfl ⟨cov_none HN.out, eset (eset (eset H.out.1 (by omega) _ _) (by omega) _ _) (by omega) _ _⟩
theorem rcov_any (A : Option Addr) (way : List Stp) (c : Nat) (head len el : Int) (w : World) (hr : Rd w A 3 Stc way) (hm : way.length ≤ maxLen) : Calls Tryd.prog 99 #[.agg #[.slice A way.length c, .int .i64 head, .int .i64 len], .int .i64 el] w fun e w' => e = .returned (.tuple #[.agg #[.int .i64 (covS way el).el, .int .i64 (covS way el).in_, .int .i64 (covS way el).out_], .bool (covB way el)]) ∧ Below w.heap.size w w' := by
  unfold maxLen at hm
  have HR := Lib.hid hr
  clear hr
  go_enter Tryd.func99, Tryd.ntmps99
  go_wp2
  go_loopg [6] way.length (fun g ix wr => ∃ k : Nat, ix = .int .i64 k ∧ k ≤ way.length ∧ g = way.length - k ∧ Hid (Ext w wr ∧ BdyAt wr w.heap.size A way c head len ∧ Own wr (w.heap.size + 1) [.int .i64 0, .int .i64 0, .int .i64 0] ∧ CovTo way el k))
  case atStart => exact ⟨0, rfl, by omega, rfl, eal (eal (Ext.refl _) _) _, CellsAt.keep (CellsAt.new rfl) (eal (Ext.refl _) _), Own.new (by simp), fun m s hm => absurd hm (by omega)⟩
  case round =>
    obtain ⟨k, rfl, hk, hg, H⟩ := hrel
    have HG := Lib.hid hg
    clear hg
    obtain ⟨o0, oc, of⟩ := H.out.2.2.1
    obtain ⟨b0, b1, b2, b3⟩ := bdyAt_cells H.out.2.1
    have z0 := oc 0 _ rfl
    have z1 := oc 1 _ rfl
    have z2 := oc 2 _ rfl
    have f0 := of 0
    have f1 := of 1
    have f2 := of 2
    clear oc of
    by_cases hlt : k < way.length
    · obtain ⟨bw, ow, s, rfl, hs, hbs, s0, s1, s2⟩ := rd_st HR.out H.out.1 hlt
      have q0 : decide ((k : Int) < (way.length : Int)) = true := decide_eq_true (by omega)
      have HS := Lib.hid hs
      clear hs
      by_cases he : s.el = el
      · have HN : Hid (covF way el = some s) := CovTo.some H.out.2.2.2 HS.out he
        have q1 : (s.el == el) = true := by simp [he]
        clear he
        go_wp2
        (try simp only [Exit.inBlock, Exit.then])
        exact bodyPost_ret (v := .tuple #[.agg #[.int .i64 s.el, .int .i64 s.in_, .int .i64 s.out_], .bool true]) (by simp [results, Tryd.results99, go_sem, o0, z0, z1, z2, f0, f1, f2]) rfl ⟨cov_ret HN.out, eset (eset (eset H.out.1 (by omega) _ _) (by omega) _ _) (by omega) _ _⟩
      · have HN : Hid (CovTo way el (k + 1)) := CovTo.step H.out.2.2.2 HS.out he
        have q1 : (s.el == el) = false := by simpa using he
        have HX : Hid (Own wr (w.heap.size + 1) [.int .i64 0, .int .i64 0, .int .i64 0]) := H.out.2.2.1
        clear he
        go_wp2
        go_roundg (way.length - (k + 1))
        case measure => have := HG.out; omega
        case rel => exact ⟨k + 1, by go_num, by omega, rfl, H.out.1, H.out.2.1.keep (Ext.refl _), HX.out.keep (Ext.refl _), HN.out⟩
    · have HN : Hid (covF way el = none) := CovTo.none H.out.2.2.2 (by omega)
      have q0 : decide ((k : Int) < (way.length : Int)) = false := decide_eq_false (by omega)
      go_wp2
      (try simp only [Exit.inBlock, Exit.then])
      exact bodyPost_ret (v := .tuple #[.agg #[.int .i64 Stp.z.el, .int .i64 Stp.z.in_, .int .i64 Stp.z.out_], .bool false]) (by simp [results, Tryd.results99, go_sem, o0, z0, z1, z2, f0, f1, f2, Stp.z]) rfl ⟨cov_none HN.out, eset (eset (eset H.out.1 (by omega) _ _) (by omega) _ _) (by omega) _ _⟩
end
end Go.Proofs.YticonpjkcocgeaaDoor
