/- Walks of package pair: Confirm. -/
import Derived.Test.YtcodpbiefidmkaaWPairD
import Derived.IntWalk
set_option linter.unusedVariables false
set_option linter.unusedSimpArgs false
namespace Go.Proofs.Ytcodpbiefidmkaa
open Go.ChangeShapes Go.WideShapes Go.ChangeAt Go.RowKit
open Sg

theorem getD_pr {l : List Prq} {i : Nat} {p : Prq} (h : l[i]? = some p) : l.getD i Prq.z = p := by rw [List.getD_eq_getElem?_getD, h]; rfl
structure ConIs (l : List Prq) (k s : Int) (by_ : ByteArray) (now : Int) (e : Int) (xs : List Prq) (p : Prq) : Prop where
  err : conE l k s by_ now = e
  lst : conL l k s by_ now = xs
  prq : conP l k s by_ now = p
theorem con_bad {l : List Prq} {k s : Int} {by_ : ByteArray} {now e : Int} (h : conE l k s by_ now = e) (h0 : e ≠ 0) : ConIs l k s by_ now e [] Prq.z :=
  ⟨h, by rw [conL, h, if_neg h0], by rw [conP, h, if_neg h0]⟩
theorem con_none {l : List Prq} {k s : Int} {by_ : ByteArray} {now : Int} (hi : idxO k s l = none) : ConIs l k s by_ now 9 [] Prq.z := con_bad (by rw [conE, hi]) (by decide)
theorem con_due {l : List Prq} {k s : Int} {by_ : ByteArray} {now : Int} {i : Nat} {p : Prq} (hi : idxO k s l = some i) (hp : l[i]? = some p) (h : dueB p now = true) : ConIs l k s by_ now 15 [] Prq.z :=
  con_bad (by rw [conE, hi]; show (if dueB (l.getD i Prq.z) now = true then (15 : Int) else _) = 15; rw [getD_pr hp, if_pos h]) (by decide)
theorem con_name {l : List Prq} {k s : Int} {by_ : ByteArray} {now : Int} {i : Nat} {p : Prq} (hi : idxO k s l = some i) (hp : l[i]? = some p) (h : dueB p now = false) (h2 : nameB by_.data.toList = false) : ConIs l k s by_ now 1 [] Prq.z :=
  con_bad (by rw [conE, hi]; show (if dueB (l.getD i Prq.z) now = true then (15 : Int) else if nameB by_.data.toList = false then 1 else _) = 1; rw [getD_pr hp, if_neg (by rw [h]; decide), if_pos h2]) (by decide)
theorem con_same {l : List Prq} {k s : Int} {by_ : ByteArray} {now : Int} {i : Nat} {p : Prq} (hi : idxO k s l = some i) (hp : l[i]? = some p) (h : dueB p now = false) (h2 : nameB by_.data.toList = true) (h3 : by_ = p.by_) : ConIs l k s by_ now 13 [] Prq.z :=
  con_bad (by
    rw [conE, hi]
    show (if dueB (l.getD i Prq.z) now = true then (15 : Int) else if nameB by_.data.toList = false then 1 else if by_ = (l.getD i Prq.z).by_ then 13 else 0) = 13
    rw [getD_pr hp, if_neg (by rw [h]; decide), if_neg (by rw [h2]; decide), if_pos h3]) (by decide)
theorem con_ok {l : List Prq} {k s : Int} {by_ : ByteArray} {now : Int} {i : Nat} {p : Prq} (hi : idxO k s l = some i) (hp : l[i]? = some p) (h : dueB p now = false) (h2 : nameB by_.data.toList = true) (h3 : by_ ≠ p.by_) : ConIs l k s by_ now 0 (l.take i ++ l.drop (i + 1)) p := by
  have e : conE l k s by_ now = 0 := by
    rw [conE, hi]
    show (if dueB (l.getD i Prq.z) now = true then (15 : Int) else if nameB by_.data.toList = false then 1 else if by_ = (l.getD i Prq.z).by_ then 13 else 0) = 0
    rw [getD_pr hp, if_neg (by rw [h]; decide), if_neg (by rw [h2]; decide), if_neg h3]
  refine ⟨e, ?_, ?_⟩
  · rw [conL, if_pos e, hi]; exact List.eraseIdx_eq_take_drop_succ l i
  · rw [conP, if_pos e, hi]; exact getD_pr hp
theorem str_ne {a b : ByteArray} (h : a ≠ b) : (a.toList == b.toList) = false ∧ ¬ a.toList = b.toList := by
  have : ¬ a.toList = b.toList := fun e => h (str_eq e)
  exact ⟨by simpa using this, this⟩
theorem rd_take {α : Type} {w : World} {A : Option Addr} {k : Nat} {enc : α → List Value} {xs : List α} (h : Rd w A k enc xs) (i : Nat) : Rd w A k enc (xs.take i) := fun h0 => by
  have hl : 0 < xs.length := by have := h0; simp at this; omega
  obtain ⟨b, off, e, h1, h2⟩ := h hl
  refine ⟨b, off, e, h1, fun j x hj => h2 j x ?_⟩
  have hlt : j < i := by have := (List.getElem?_eq_some_iff.1 hj).1; simp at this; omega
  rwa [List.getElem?_take_of_lt hlt] at hj
theorem rd_drop {α : Type} {w : World} {b off k : Nat} {enc : α → List Value} {xs : List α} (h : Rd w (some ⟨b, off, none⟩) k enc xs) (i : Nat) : Rd w (some ⟨b, off + i * k, none⟩) k enc (xs.drop i) := fun h0 => by
  have hl : 0 < xs.length := by have := h0; simp at this; omega
  obtain ⟨b', off', e, h1, h2⟩ := h hl
  injection e with e
  injection e with e1 e2
  subst e1 e2
  refine ⟨b, off + i * k, rfl, h1, fun j x hj m v hm => ?_⟩
  rw [List.getElem?_drop] at hj
  have := h2 (i + j) x hj m v hm
  rw [Nat.add_mul] at this
  rw [← this]; congr 2; omega
theorem rd_nil' {α : Type} {w : World} {A : Option Addr} {k : Nat} {enc : α → List Value} {xs : List α} (h : xs.length = 0) : Rd w A k enc xs := fun h0 => by omega
set_option maxHeartbeats 8000000 in
theorem confirm_any (A : Option Addr) (l : List Prq) (c : Nat) (k s : Int) (by_ : ByteArray) (now : Int) (w : World) (hm : l.length ≤ 400000) (hc : l.length ≤ c) (hn : I64 now) (hb : by_.size ≤ maxLen) (hI : ∀ (i : Nat) x, l[i]? = some x → PrqI x) (hr : Rd w A 4 Prc l) :
    Calls Try.prog 13 #[.slice A l.length c, .int .i64 k, .int .i64 s, .string by_, .int .i64 now] w fun e w' => ∃ v, e = .returned (.tuple #[v, .agg #[.int .i64 (conP l k s by_ now).kind, .int .i64 (conP l k s by_ now).subject, .int .i64 (conP l k s by_ now).since, .string (conP l k s by_ now).by_], .int .i64 (conE l k s by_ now)]) ∧ OwnL w' w.heap.size 24 4 Prc v (conL l k s by_ now) ∧ Below w.heap.size w w' := by
  have HM : Hid (l.length ≤ maxLen) := by show _ ≤ _; unfold maxLen; omega
  have HR := Lib.hid hr
  have HI := Lib.hid hI
  have HN := Lib.hid hn
  have HBY := Lib.hid hb
  clear hr hI hn hb
  cases hx : idxO k s l with
  | none =>
    have HC := Lib.hid (con_none (by_ := by_) (now := now) hx)
    have HX : Hid (idxV k s l = -1) := idxV_none hx
    clear hx
    go_enter Try.func13, Try.ntmps13
    go_wp2_with fail
    refine (to_after (index_any A l c k s _ HM.out (HR.out.keep (eal (Ext.refl _) _)))).mono ?_
    rintro e w' ⟨y, rfl, rfl⟩
    rw [HX.out]
    go_wp2_with fail
    refine bodyPost_ret (v := .tuple #[.slice none 0 0, .agg #[.int .i64 (conP l k s by_ now).kind, .int .i64 (conP l k s by_ now).subject, .int .i64 (conP l k s by_ now).since, .string (conP l k s by_ now).by_], .int .i64 (conE l k s by_ now)]) (by rw [HC.out.err, HC.out.prq]; simp [results, Try.results13, go_sem, Prq.z]) rfl ⟨_, rfl, by rw [HC.out.lst]; exact OwnL.nil, ?_⟩
    exact eset (eset (eset (eset (etr (eal (Ext.refl _) _) y.is) (Nat.le_refl _) _ _) (Nat.le_refl _) _ _) (Nat.le_refl _) _ _) (Nat.le_refl _) _ _
  | some i =>
    have HX : Hid (idxV k s l = i) := idxV_some hx
    obtain ⟨p, hp, _, _⟩ := idxO_at hx
    have hil : i < l.length := (List.getElem?_eq_some_iff.1 hp).1
    have HPI := Lib.hid (HI.out i p hp)
    have HP := Lib.hid hp
    have hi0 : decide ((i : Int) < 0) = false := decide_eq_false (by omega)
    cases hd : dueB p now with
    | true =>
      have HC := Lib.hid (con_due (by_ := by_) hx hp hd)
      have HD := Lib.hid hd
      clear hx hp hd
      go_enter Try.func13, Try.ntmps13
      go_wp2_with fail
      refine (to_after (index_any A l c k s _ HM.out (HR.out.keep (eal (Ext.refl _) _)))).mono ?_
      rintro e w' ⟨y, rfl, rfl⟩
      rw [HX.out]
      have HB := Lib.hid (etr (eal (Ext.refl w) _) y.is)
      have z1 : w.heap.size < y.val.heap.size := by have := y.is.size; simp at this; omega
      have z2 : w.heap.size < y.val.heap.size + 1 := by omega
      obtain ⟨b, off, p', rfl, hp', hbs, c0, c1, c2, c3⟩ := rd_pr HR.out HB.out hil
      obtain rfl : p = p' := by have := HP.out; rw [hp'] at this; cases this; rfl
      clear hp'
      go_wp2_with fail
      refine (to_after (due_any p now _ HPI.out.2.2.1 HN.out)).mono ?_
      rintro e w' ⟨y3, rfl, rfl⟩
      have z3 : w.heap.size < y3.val.heap.size := by have := y3.is.size; simp at this; omega
      have z4 : y.val.heap.size < y3.val.heap.size := by have := y3.is.size; simp at this; omega
      rw [HD.out]
      go_wp2_with fail
      refine bodyPost_ret (v := .tuple #[.slice none 0 0, .agg #[.int .i64 (conP l k s by_ now).kind, .int .i64 (conP l k s by_ now).subject, .int .i64 (conP l k s by_ now).since, .string (conP l k s by_ now).by_], .int .i64 (conE l k s by_ now)]) (by rw [HC.out.err, HC.out.prq]; simp [results, Try.results13, go_sem, Prq.z, z1, z2]) rfl ⟨_, rfl, by rw [HC.out.lst]; exact OwnL.nil, ?_⟩
      exact eset (eset (eset (eset (etr (eal HB.out _) y3.is) (Nat.le_refl _) _ _) (Nat.le_refl _) _ _) (Nat.le_refl _) _ _) (Nat.le_refl _) _ _
    | false =>
      cases hnm : nameB by_.data.toList with
      | false =>
        have HC := Lib.hid (con_name hx hp hd hnm)
        have HD := Lib.hid hd
        have HNM := Lib.hid hnm
        clear hx hp hd hnm
        go_enter Try.func13, Try.ntmps13
        go_wp2_with fail
        refine (to_after (index_any A l c k s _ HM.out (HR.out.keep (eal (Ext.refl _) _)))).mono ?_
        rintro e w' ⟨y, rfl, rfl⟩
        rw [HX.out]
        have HB := Lib.hid (etr (eal (Ext.refl w) _) y.is)
        have z1 : w.heap.size < y.val.heap.size := by have := y.is.size; simp at this; omega
        have z2 : w.heap.size < y.val.heap.size + 1 := by omega
        obtain ⟨b, off, p', rfl, hp', hbs, c0, c1, c2, c3⟩ := rd_pr HR.out HB.out hil
        obtain rfl : p = p' := by have := HP.out; rw [hp'] at this; cases this; rfl
        clear hp'
        go_wp2_with fail
        refine (to_after (due_any p now _ HPI.out.2.2.1 HN.out)).mono ?_
        rintro e w' ⟨y3, rfl, rfl⟩
        have z3 : w.heap.size < y3.val.heap.size := by have := y3.is.size; simp at this; omega
        have z4 : y.val.heap.size < y3.val.heap.size := by have := y3.is.size; simp at this; omega
        rw [HD.out]
        go_wp2_with fail
        refine (in_after y3 (wname_any by_ _ HBY.out)).mono ?_
        rintro e w' ⟨y4, rfl, rfl⟩
        have z5 : w.heap.size < y4.val.heap.size := by have := y4.is.size; simp at this; omega
        rw [HNM.out]
        go_wp2_with fail
        refine bodyPost_ret (v := .tuple #[.slice none 0 0, .agg #[.int .i64 (conP l k s by_ now).kind, .int .i64 (conP l k s by_ now).subject, .int .i64 (conP l k s by_ now).since, .string (conP l k s by_ now).by_], .int .i64 (conE l k s by_ now)]) (by rw [HC.out.err, HC.out.prq]; simp [results, Try.results13, go_sem, Prq.z, z1, z2]) rfl ⟨_, rfl, by rw [HC.out.lst]; exact OwnL.nil, ?_⟩
        exact eset (eset (eset (eset (etr (eal HB.out _) y4.is) (Nat.le_refl _) _ _) (Nat.le_refl _) _ _) (Nat.le_refl _) _ _) (Nat.le_refl _) _ _
      | true =>
        by_cases hby : by_ = p.by_
        · have HC := Lib.hid (con_same hx hp hd hnm hby)
          have HD := Lib.hid hd
          have HNM := Lib.hid hnm
          have hq : (by_.toList == p.by_.toList) = true := by rw [hby]; simp
          have hq2 : by_.toList = p.by_.toList := by rw [hby]
          have HQ2 := Lib.hid hq2
          clear hx hp hd hnm hby hq2
          go_enter Try.func13, Try.ntmps13
          go_wp2_with fail
          refine (to_after (index_any A l c k s _ HM.out (HR.out.keep (eal (Ext.refl _) _)))).mono ?_
          rintro e w' ⟨y, rfl, rfl⟩
          rw [HX.out]
          have HB := Lib.hid (etr (eal (Ext.refl w) _) y.is)
          have z1 : w.heap.size < y.val.heap.size := by have := y.is.size; simp at this; omega
          have z2 : w.heap.size < y.val.heap.size + 1 := by omega
          obtain ⟨b, off, p', rfl, hp', hbs, c0, c1, c2, c3⟩ := rd_pr HR.out HB.out hil
          obtain rfl : p = p' := by have := HP.out; rw [hp'] at this; cases this; rfl
          clear hp'
          go_wp2_with fail
          refine (to_after (due_any p now _ HPI.out.2.2.1 HN.out)).mono ?_
          rintro e w' ⟨y3, rfl, rfl⟩
          have z3 : w.heap.size < y3.val.heap.size := by have := y3.is.size; simp at this; omega
          have z4 : y.val.heap.size < y3.val.heap.size := by have := y3.is.size; simp at this; omega
          rw [HD.out]
          go_wp2_with fail
          refine (in_after y3 (wname_any by_ _ HBY.out)).mono ?_
          rintro e w' ⟨y4, rfl, rfl⟩
          have z5 : w.heap.size < y4.val.heap.size := by have := y4.is.size; simp at this; omega
          have z6 : y.val.heap.size < y4.val.heap.size := by have := y4.is.size; simp at this; omega
          rw [HNM.out]
          go_wp2_with fail
          refine bodyPost_ret (v := .tuple #[.slice none 0 0, .agg #[.int .i64 (conP l k s by_ now).kind, .int .i64 (conP l k s by_ now).subject, .int .i64 (conP l k s by_ now).since, .string (conP l k s by_ now).by_], .int .i64 (conE l k s by_ now)]) (by rw [HC.out.err, HC.out.prq]; simp [results, Try.results13, go_sem, Prq.z, z1, z2]) rfl ⟨_, rfl, by rw [HC.out.lst]; exact OwnL.nil, ?_⟩
          exact eset (eset (eset (eset (etr (eal HB.out _) y4.is) (Nat.le_refl _) _ _) (Nat.le_refl _) _ _) (Nat.le_refl _) _ _) (Nat.le_refl _) _ _
        · have HC := Lib.hid (con_ok hx hp hd hnm hby)
          have HD := Lib.hid hd
          have HNM := Lib.hid hnm
          obtain ⟨hq, hq2⟩ := str_ne hby
          clear hx hp hd hnm hby
          go_enter Try.func13, Try.ntmps13
          go_wp2_with fail
          refine (to_after (index_any A l c k s _ HM.out (HR.out.keep (eal (Ext.refl _) _)))).mono ?_
          rintro e w' ⟨y, rfl, rfl⟩
          rw [HX.out]
          have HB := Lib.hid (etr (eal (Ext.refl w) _) y.is)
          have z1 : w.heap.size < y.val.heap.size := by have := y.is.size; simp at this; omega
          have z2 : w.heap.size < y.val.heap.size + 1 := by omega
          obtain ⟨b, off, p', rfl, hp', hbs, c0, c1, c2, c3⟩ := rd_pr HR.out HB.out hil
          obtain rfl : p = p' := by have := HP.out; rw [hp'] at this; cases this; rfl
          clear hp'
          go_wp2_with fail
          refine (to_after (due_any p now _ HPI.out.2.2.1 HN.out)).mono ?_
          rintro e w' ⟨y3, rfl, rfl⟩
          have z3 : w.heap.size < y3.val.heap.size := by have := y3.is.size; simp at this; omega
          have z4 : y.val.heap.size < y3.val.heap.size := by have := y3.is.size; simp at this; omega
          rw [HD.out]
          go_wp2_with fail
          refine (in_after y3 (wname_any by_ _ HBY.out)).mono ?_
          rintro e w' ⟨y4, rfl, rfl⟩
          have z5 : w.heap.size < y4.val.heap.size := by have := y4.is.size; simp at this; omega
          have z6 : y.val.heap.size < y4.val.heap.size := by have := y4.is.size; simp at this; omega
          rw [HNM.out]
          go_wp2_with fail
          have HB4 := Lib.hid (etr (eal HB.out _) y4.is)
          have n1 : IntKind.i64.wrap ((i : Int) + 1) = (i : Int) + 1 := IntWalk.i64_in _ (by omega)
          have n2 : ((i : Int) + 1).toNat = i + 1 := by omega
          have n3 : (0 : Int) ≤ (i : Int) + 1 := by omega
          have n4 : i ≤ c := by omega
          have n5 : i + 1 ≤ l.length := by omega
          have n6 : (i : Int) + 1 ≤ (l.length : Int) := by omega
          have n7 : (i : Int) ≤ (c : Int) := by omega
          by_cases hcap : i + 1 = c
          · have hll : l.length = i + 1 := by omega
            subst hcap
            have HLL := Lib.hid hll
            clear hll
            have n10 : (i : Int) ≤ (i : Int) + 1 := by omega
            refine wp_region_head 11 [0, 1, 2, 3, 4, 5, 6, 9] 3 (by kernel_rfl) (by kernel_rfl) (fun _ _ d _ _ h => by cases d <;> exact h) (by kernel_rfl) (by kernel_rfl) (by decide) (by kernel_rfl) rfl ?_
            repeat (refine wpE_step rfl (fun K hK => ?_); go_simp; (refine hK _ ?_; clear hK K))
            refine wpE_nil ?_
            intro x
            have HBx := Lib.hid (etr HB4.out x.is)
            refine headR_ready (rs := [7]) (by kernel_rfl) (by simp) (AllH.cons (by decide) rfl (fun K hK => ?_) AllH.nil)
            go_simp
            refine hK _ _ (eal (Ext.refl _) _) (fun zz => ?_)
            clear hK K
            have HBz := Lib.hid (etr (eal HBx.out (.cells #[.slice (some ⟨b, off, none⟩) i (i + 1), .slice (some ⟨b, off, none⟩) 0 0] 22)) zz.is)
            have HSL : Hid (CellsAt zz.val x.val.heap.size (List.map SrcPr.val [⟨some ⟨b, off, none⟩, l.take i, i + 1⟩, ⟨(some ⟨b, off, none⟩), l.drop (i + 1), 0⟩])) := by
              show CellsAt _ _ _
              have : List.map SrcPr.val [⟨some ⟨b, off, none⟩, l.take i, i + 1⟩, ⟨(some ⟨b, off, none⟩), l.drop (i + 1), 0⟩] = (#[.slice (some ⟨b, off, none⟩) i (i + 1), .slice (some ⟨b, off, none⟩) 0 0] : Array Value).toList := by
                have := HLL.out; simp [SrcPr.val]; omega
              rw [this]
              exact (CellsAt.new rfl).keep zz.is
            refine headR_ready (rs := [8]) (by kernel_rfl) (by simp) (AllH.cons (by decide) rfl (fun K hK => ?_) AllH.nil)
            go_simp
            go_wp2_with (go_at_call 24; refine (concat_Pr [⟨some ⟨b, off, none⟩, l.take i, i + 1⟩, ⟨(some ⟨b, off, none⟩), l.drop (i + 1), 0⟩] x.val.heap.size 2 _ HSL.out (fun j t hj => by
                           have : j = 0 ∨ j = 1 := by have := (List.getElem?_eq_some_iff.1 hj).1; simp at this; omega
                           rcases this with rfl | rfl
                           · simp at hj; subst hj; exact rd_take (HR.out.keep HBz.out) i
                           · simp at hj; subst hj; exact rd_nil' (by have := HLL.out; simp; omega)) (by simp) (by simp [SrcPr.all]; omega)).mono ?_; rintro e w5 ⟨v5, rfl, ho5, hb5⟩; have HO5 := Lib.hid ho5; have HB5 := Lib.hid hb5; clear ho5 hb5)
            refine hK _ _ HB5.out (fun z8 => ?_)
            clear hK K
            refine headR_ready (rs := [10]) (by kernel_rfl) (by simp) (AllH.cons (by decide) rfl (fun K hK => ?_) AllH.nil)
            go_simp
            refine hK _ _ (Ext.refl _) (fun z9 => ?_)
            clear hK K
            refine headR_tail (by kernel_rfl) ?_
            have HX9 := Lib.hid (etr (etr (etr HBz.out HB5.out) z8.is) z9.is)
            have HE9 := Lib.hid (etr (etr (etr (etr (etr (eal (Ext.refl y.val) (.cells #[.int .i64 p.kind, .int .i64 p.subject, .int .i64 p.since, .string p.by_] 24)) y4.is) x.is) (etr (eal (Ext.refl x.val) (.cells #[.slice (some ⟨b, off, none⟩) i (i + 1), .slice (some ⟨b, off, none⟩) 0 0] 22)) zz.is)) HB5.out) (etr z8.is z9.is))
            have CW := ((CellsAt.new (w := w) (cs := #[.int .i64 0, .int .i64 0, .int .i64 0, .string ⟨#[]⟩]) (t := 24) rfl).keep y.is).keep HE9.out
            have g0 := CW.2 0 _ rfl
            have g1 := CW.2 1 _ rfl
            have g2 := CW.2 2 _ rfl
            have g3 := CW.2 3 _ rfl
            have gz := CW.1
            have gf : ∀ j, z9.val.frozen? ⟨w.heap.size, j, none⟩ = false := fun j => ((HE9.out).frozen (p := ⟨w.heap.size, j, none⟩) z1).trans (((y.is).frozen (p := ⟨w.heap.size, j, none⟩) (by simp)).trans (World.frozen?_alloc_at _ _ _ _ rfl))
            have gf0 := gf 0
            have gf1 := gf 1
            have gf2 := gf 2
            have gf3 := gf 3
            have HO9 := Lib.hid ((((HO5.out.keep z8.is).keep z9.is).only ((((Only.set _ w.heap.size 0 (.int .i64 p.kind)).trans (Only.set _ _ 1 (.int .i64 p.subject))).trans (Only.set _ _ 2 (.int .i64 p.since))).trans (Only.set _ _ 3 (.string p.by_))) (fun e => by have h1 := (HO5.out.lt _ e).1; have h2 := x.is.size; have h3 := zz.is.size; simp at h3; omega)).mono (b' := w.heap.size) (esz HBz.out))
            clear CW gf
            simp only [List.drop_succ_cons, List.drop_zero]
            go_wp2
            refine bodyPost_ret (v := .tuple #[v5, .agg #[.int .i64 (conP l k s by_ now).kind, .int .i64 (conP l k s by_ now).subject, .int .i64 (conP l k s by_ now).since, .string (conP l k s by_ now).by_], .int .i64 (conE l k s by_ now)]) (by rw [HC.out.err, HC.out.prq]; simp [results, Try.results13, go_sem, g0, g1, g2, g3, gz]) rfl ⟨_, rfl, by rw [HC.out.lst]; simpa [SrcPr.all] using HO9.out, ?_⟩
            exact eset (eset (eset (eset HX9.out (Nat.le_refl _) _ _) (Nat.le_refl _) _ _) (Nat.le_refl _) _ _) (Nat.le_refl _) _ _
          · have n8 : (i + 1 == c) = false := by simpa using hcap
            have n9 : ¬ c = i + 1 := fun e => hcap e.symm
            refine wp_region_head 11 [0, 1, 2, 3, 4, 5, 6, 9] 3 (by kernel_rfl) (by kernel_rfl) (fun _ _ d _ _ h => by cases d <;> exact h) (by kernel_rfl) (by kernel_rfl) (by decide) (by kernel_rfl) rfl ?_
            repeat (refine wpE_step rfl (fun K hK => ?_); go_simp; (refine hK _ ?_; clear hK K))
            refine wpE_nil ?_
            intro x
            have HBx := Lib.hid (etr HB4.out x.is)
            refine headR_ready (rs := [7]) (by kernel_rfl) (by simp) (AllH.cons (by decide) rfl (fun K hK => ?_) AllH.nil)
            go_simp
            refine hK _ _ (eal (Ext.refl _) _) (fun zz => ?_)
            clear hK K
            have HBz := Lib.hid (etr (eal HBx.out (.cells #[.slice (some ⟨b, off, none⟩) i c, .slice (some ⟨b, off + (i + 1) * 4, none⟩) (l.length - (i + 1)) (c - (i + 1))] 22)) zz.is)
            have HSL : Hid (CellsAt zz.val x.val.heap.size (List.map SrcPr.val [⟨some ⟨b, off, none⟩, l.take i, c⟩, ⟨(some ⟨b, off + (i + 1) * 4, none⟩), l.drop (i + 1), (c - (i + 1))⟩])) := by
              show CellsAt _ _ _
              have : List.map SrcPr.val [⟨some ⟨b, off, none⟩, l.take i, c⟩, ⟨(some ⟨b, off + (i + 1) * 4, none⟩), l.drop (i + 1), (c - (i + 1))⟩] = (#[.slice (some ⟨b, off, none⟩) i c, .slice (some ⟨b, off + (i + 1) * 4, none⟩) (l.length - (i + 1)) (c - (i + 1))] : Array Value).toList := by
                simp [SrcPr.val]; omega
              rw [this]
              exact (CellsAt.new rfl).keep zz.is
            refine headR_ready (rs := [8]) (by kernel_rfl) (by simp) (AllH.cons (by decide) rfl (fun K hK => ?_) AllH.nil)
            go_simp
            go_wp2_with (go_at_call 24; refine (concat_Pr [⟨some ⟨b, off, none⟩, l.take i, c⟩, ⟨(some ⟨b, off + (i + 1) * 4, none⟩), l.drop (i + 1), (c - (i + 1))⟩] x.val.heap.size 2 _ HSL.out (fun j t hj => by
                           have : j = 0 ∨ j = 1 := by have := (List.getElem?_eq_some_iff.1 hj).1; simp at this; omega
                           rcases this with rfl | rfl
                           · simp at hj; subst hj; exact rd_take (HR.out.keep HBz.out) i
                           · simp at hj; subst hj; exact rd_drop (HR.out.keep HBz.out) (i + 1)) (by simp) (by simp [SrcPr.all]; omega)).mono ?_; rintro e w5 ⟨v5, rfl, ho5, hb5⟩; have HO5 := Lib.hid ho5; have HB5 := Lib.hid hb5; clear ho5 hb5)
            refine hK _ _ HB5.out (fun z8 => ?_)
            clear hK K
            refine headR_ready (rs := [10]) (by kernel_rfl) (by simp) (AllH.cons (by decide) rfl (fun K hK => ?_) AllH.nil)
            go_simp
            refine hK _ _ (Ext.refl _) (fun z9 => ?_)
            clear hK K
            refine headR_tail (by kernel_rfl) ?_
            have HX9 := Lib.hid (etr (etr (etr HBz.out HB5.out) z8.is) z9.is)
            have HE9 := Lib.hid (etr (etr (etr (etr (etr (eal (Ext.refl y.val) (.cells #[.int .i64 p.kind, .int .i64 p.subject, .int .i64 p.since, .string p.by_] 24)) y4.is) x.is) (etr (eal (Ext.refl x.val) (.cells #[.slice (some ⟨b, off, none⟩) i c, .slice (some ⟨b, off + (i + 1) * 4, none⟩) (l.length - (i + 1)) (c - (i + 1))] 22)) zz.is)) HB5.out) (etr z8.is z9.is))
            have CW := ((CellsAt.new (w := w) (cs := #[.int .i64 0, .int .i64 0, .int .i64 0, .string ⟨#[]⟩]) (t := 24) rfl).keep y.is).keep HE9.out
            have g0 := CW.2 0 _ rfl
            have g1 := CW.2 1 _ rfl
            have g2 := CW.2 2 _ rfl
            have g3 := CW.2 3 _ rfl
            have gz := CW.1
            have gf : ∀ j, z9.val.frozen? ⟨w.heap.size, j, none⟩ = false := fun j => ((HE9.out).frozen (p := ⟨w.heap.size, j, none⟩) z1).trans (((y.is).frozen (p := ⟨w.heap.size, j, none⟩) (by simp)).trans (World.frozen?_alloc_at _ _ _ _ rfl))
            have gf0 := gf 0
            have gf1 := gf 1
            have gf2 := gf 2
            have gf3 := gf 3
            have HO9 := Lib.hid ((((HO5.out.keep z8.is).keep z9.is).only ((((Only.set _ w.heap.size 0 (.int .i64 p.kind)).trans (Only.set _ _ 1 (.int .i64 p.subject))).trans (Only.set _ _ 2 (.int .i64 p.since))).trans (Only.set _ _ 3 (.string p.by_))) (fun e => by have h1 := (HO5.out.lt _ e).1; have h2 := x.is.size; have h3 := zz.is.size; simp at h3; omega)).mono (b' := w.heap.size) (esz HBz.out))
            clear CW gf
            simp only [List.drop_succ_cons, List.drop_zero]
            go_wp2
            refine bodyPost_ret (v := .tuple #[v5, .agg #[.int .i64 (conP l k s by_ now).kind, .int .i64 (conP l k s by_ now).subject, .int .i64 (conP l k s by_ now).since, .string (conP l k s by_ now).by_], .int .i64 (conE l k s by_ now)]) (by rw [HC.out.err, HC.out.prq]; simp [results, Try.results13, go_sem, g0, g1, g2, g3, gz]) rfl ⟨_, rfl, by rw [HC.out.lst]; simpa [SrcPr.all] using HO9.out, ?_⟩
            exact eset (eset (eset (eset HX9.out (Nat.le_refl _) _ _) (Nat.le_refl _) _ _) (Nat.le_refl _) _ _) (Nat.le_refl _) _ _
end Go.Proofs.Ytcodpbiefidmkaa
