/- Walks of package restriction and of its reference: Put, Set. -/
import Derived.Test.YtacnfchoemndeaaDoorWRstB
import Derived.Test.YtacnfchoemndeaaDoorLibRs
import Derived.Test.YtacnfchoemndeaaDoorTail
import Derived.IntWalk
set_option linter.unusedVariables false
set_option linter.unusedSimpArgs false
set_option maxRecDepth 100000
namespace Go.Proofs.YtacnfchoemndeaaDoor
open Go.ChangeShapes Go.WideShapes Go.ChangeAt Go.RowKit
open Sg

theorem ret_vi {v : Value} {k : IntKind} {a b : Int} (h : a = b) : Ending.returned (.tuple #[v, .int k a]) = .returned (.tuple #[v, .int k b]) := by rw [h]
def dropA (A : Option Addr) (c i k : Nat) : Option Addr := if c = i then A else A.map (·.add (i * k))
theorem sl_hi (A : Option Addr) (n c p : Nat) (q : Int) (hq : q = (p : Int)) (hp : p ≤ c) (w : World) : (Instr.slice 29 (.slice A n c) none (some (.int .i64 q)) none).run Tryd.prog w = .ok (.slice A p c) w := by
  subst hq
  rw [run_slice_h w 29 A n c (by kernel_rfl) .i64 (p : Int) (by omega) (by omega)]
  have hs : (sizeOf (Tryd.prog.elem 29)).run Tryd.prog w = .ok 6 w := by simp [go_sem]
  rw [hs]
  simp only [Result.andThen, sliced, Int.toNat_natCast, Nat.zero_mul, Nat.sub_zero]
  congr 2
  split
  · rfl
  · cases A with
    | none => rfl
    | some a => rfl
theorem sl_lo (A : Option Addr) (n c p : Nat) (q : Int) (hq : q = (p : Int)) (hp : p ≤ n) (w : World) : (Instr.slice 29 (.slice A n c) (some (.int .i64 q)) none none).run Tryd.prog w = .ok (.slice (dropA A c p 6) (n - p) (c - p)) w := by
  subst hq
  rw [run_slice_l w 29 A n c (by kernel_rfl) .i64 (p : Int) (by omega) (by omega)]
  have hs : (sizeOf (Tryd.prog.elem 29)).run Tryd.prog w = .ok 6 w := by simp [go_sem]
  rw [hs]
  rfl
theorem rd_take {α : Type} {w : World} {A : Option Addr} {k : Nat} {enc : α → List Value} {xs : List α} (h : Rd w A k enc xs) (i : Nat) : Rd w A k enc (xs.take i) := fun h0 => by
  have hl : 0 < xs.length := by have := h0; simp at this; omega
  obtain ⟨b, off, e, h1, h2⟩ := h hl
  refine ⟨b, off, e, h1, fun j x hj => h2 j x ?_⟩
  have hlt : j < i := by have := (List.getElem?_eq_some_iff.1 hj).1; simp at this; omega
  rwa [List.getElem?_take_of_lt hlt] at hj
theorem rd_dropA {α : Type} {w : World} {A : Option Addr} {k c : Nat} {enc : α → List Value} {xs : List α} (h : Rd w A k enc xs) (hc : xs.length ≤ c) (i : Nat) : Rd w (dropA A c i k) k enc (xs.drop i) := fun h0 => by
  have hl : i < xs.length := by have := h0; simp at this; omega
  obtain ⟨b, off, rfl, h1, h2⟩ := h (by omega)
  have e : dropA (some ⟨b, off, none⟩) c i k = some ⟨b, off + i * k, none⟩ := by
    unfold dropA
    rw [if_neg (by omega)]
    show some ((⟨b, off, none⟩ : Addr).add (i * k)) = _
    rw [add_plain]
  refine ⟨b, off + i * k, e, h1, fun j x hj m v hm => ?_⟩
  rw [List.getElem?_drop] at hj
  have := h2 (i + j) x hj m v hm
  rw [Nat.add_mul] at this
  rw [← this]; congr 2; omega
theorem flat_set {α : Type} {enc : α → List Value} {k : Nat} (hk : ∀ x, (enc x).length = k) : ∀ (l : List α) (i j : Nat) (x y : α) (u : Value), l[i]? = some x → enc y = (enc x).set j u → j < k → (l.set i y).flatMap enc = (l.flatMap enc).set (i * k + j) u
  | [], i, j, x, y, u, h, _, _ => by simp at h
  | z :: l, 0, j, x, y, u, h, he, hj => by
    simp at h; subst h
    simp only [List.set_cons_zero, List.flatMap_cons, Nat.zero_mul, Nat.zero_add]
    rw [List.set_append_left _ _ (by rw [hk]; exact hj), he]
  | z :: l, i + 1, j, x, y, u, h, he, hj => by
    have ih := flat_set hk l i j x y u (by simpa using h) he hj
    simp only [List.set_cons_succ, List.flatMap_cons]
    rw [ih, List.set_append_right _ _ (by rw [hk, Nat.succ_mul]; omega), hk]
    congr 2
    rw [Nat.succ_mul]; omega
theorem OwnL.stored {α : Type} {w : World} {base g cap : Nat} {e : TypeId} {k : Nat} {enc : α → List Value} {xs : List α} (hk : ∀ x, (enc x).length = k) (h : OwnL w base e k enc (.slice (some ⟨g, 0, none⟩) xs.length cap) xs) (i j : Nat) (x y : α) (u : Value) (hx : xs[i]? = some x) (he : enc y = (enc x).set j u) (hj : j < k) :
    OwnL (w.setCell ⟨g, i * k + j, none⟩ u) base e k enc (.slice (some ⟨g, 0, none⟩) xs.length cap) (xs.set i y) := by
  have := (World.ownsRow.stored h (i * k + j) u).1
  unfold OwnL
  rw [flat_set hk xs i j x y u hx he hj, List.length_set]
  exact this
theorem OwnL.front {α : Type} {w : World} {base g cap n : Nat} {e : TypeId} {k : Nat} {enc : α → List Value} {xs : List α} (hk : ∀ x, (enc x).length = k) (h : OwnL w base e k enc (.slice (some ⟨g, 0, none⟩) n cap) xs) (i : Nat) (hi : i ≤ xs.length) :
    OwnL w base e k enc (.slice (some ⟨g, 0, none⟩) i cap) (xs.take i) := by
  have hl := h.1
  rcases h.2 with ⟨h', _⟩ | ⟨g', cap', cur, h', hb, hg, hnc, hcm, hcs, htake⟩
  · simp at h'
  · simp only [Value.slice.injEq, Option.some.injEq, Addr.mk.injEq, and_true, true_and] at h'
    obtain ⟨rfl, rfl, rfl⟩ := h'
    have e1 : (xs.take i).length = i := by rw [List.length_take]; omega
    have e2 : (xs.take i).flatMap enc = (xs.flatMap enc).take (i * k) := by
      have e4 : ((xs.take i).flatMap enc).length = i * k := by rw [flat_len' hk, e1]
      have e6 : xs.flatMap enc = (xs.take i).flatMap enc ++ (xs.drop i).flatMap enc := by rw [← List.flatMap_append, List.take_append_drop]
      rw [e6]
      exact ((List.take_append_of_le_length (by omega)).trans (List.take_of_length_le (by omega))).symm
    refine ⟨by rw [flat_len' hk, e1], .inr ⟨g, cap, cur, by rw [e1], hb, hg, by rw [e1]; omega, hcm, hcs, ?_⟩⟩
    rw [e1, e2, ← htake, List.take_take]
    congr 1
    have : i * k ≤ xs.length * k := Nat.mul_le_mul_right _ hi
    omega
theorem set_none {l : List Rst} {k : Int} {a : Bool} (h : idxR k l = none) : setE l k a = 9 ∧ setL l k a = [] := by unfold setE setL; rw [h]; exact ⟨rfl, rfl⟩
theorem getD_rs {l : List Rst} {i : Nat} {p : Rst} (h : l[i]? = some p) : l.getD i Rst.z = p := by rw [List.getD_eq_getElem?_getD, h]; rfl
theorem set_state {l : List Rst} {k : Int} {i : Nat} {p : Rst} (h : idxR k l = some i) (hp : l[i]? = some p) (ha : p.act = true) : setE l k true = 11 ∧ setL l k true = [] := by
  unfold setE setL; rw [h]; simp only [getD_rs hp, ha]; exact ⟨rfl, rfl⟩
theorem set_on {l : List Rst} {k : Int} {i : Nat} {p : Rst} (h : idxR k l = some i) (hp : l[i]? = some p) (ha : p.act = false) : setE l k true = 0 ∧ setL l k true = l.set i (onR p) := by
  unfold setE setL; rw [h]; simp only [getD_rs hp, ha]; exact ⟨rfl, rfl⟩
theorem set_off {l : List Rst} {k : Int} {i : Nat} (h : idxR k l = some i) : setE l k false = 0 ∧ setL l k false = l.take i ++ l.drop (i + 1) := by
  unfold setE setL; rw [h]; exact ⟨rfl, List.eraseIdx_eq_take_drop_succ l i⟩
set_option maxHeartbeats 8000000 in
theorem put_any (L : Lay) (r : Rst) (A : Option Addr) (l : List Rst) (c : Nat) (w : World) (hL : LayOk w L) (hm : l.length ≤ 400000) (hc : l.length ≤ c) (hr : Rd w A 6 Rsc l) :
    Calls Tryd.prog 10 #[.agg #[.string L.name, .slice L.aS L.secs.length L.cS, .slice L.aE L.els.length L.cE, .slice L.aJ L.jts.length L.cJ, .slice L.aG L.sgs.length L.cG, .slice L.aB L.bals.length L.cB], .slice A l.length c, .agg #[.int .i64 r.id, .int .i64 r.el, .int .i64 r.from_, .int .i64 r.to_, .int .i64 r.speed, .bool r.act]] w fun e w' => ∃ v, e = .returned (.tuple #[v, .int .i64 (putE L.els l r)]) ∧ OwnL w' w.heap.size 31 6 Rsc v (putL L.els l r) ∧ Below w.heap.size w w' := by
  have HM : Hid (l.length ≤ maxLen) := by show _ ≤ _; unfold maxLen; omega
  have HL := Lib.hid hL
  have HR := Lib.hid hr
  have HC := Lib.hid hc
  clear hL hr hc
  by_cases ho : OkR L.els r
  · have HE : Hid (chkE L.els r = 0) := if_pos ho
    cases hx : idxR r.id l with
    | some i =>
      obtain ⟨e1, e2⟩ := put_dup (l := l) ho hx
      have E1 := Lib.hid e1
      have E2 := Lib.hid e2
      have HX : Hid (idxRV r.id l = i) := idxRV_some hx
      clear e1 e2 hx ho
      go_enter Tryd.func10, Tryd.ntmps10
      go_wp2_with fail
      refine (to_after (chk_any L r _ (HL.out.keep (eal (eal (Ext.refl w) (.cells #[.string L.name, .slice L.aS L.secs.length L.cS, .slice L.aE L.els.length L.cE, .slice L.aJ L.jts.length L.cJ, .slice L.aG L.sgs.length L.cG, .slice L.aB L.bals.length L.cB] 28)) (.cells #[.int .i64 r.id, .int .i64 r.el, .int .i64 r.from_, .int .i64 r.to_, .int .i64 r.speed, .bool r.act] 31))))).mono ?_
      rintro e w' ⟨y, rfl, rfl⟩
      rw [HE.out]
      go_wp2_with fail
      refine (in_after y (index_rs A l c r.id _ HM.out (HR.out.keep (etr (eal (eal (Ext.refl w) (.cells #[.string L.name, .slice L.aS L.secs.length L.cS, .slice L.aE L.els.length L.cE, .slice L.aJ L.jts.length L.cJ, .slice L.aG L.sgs.length L.cG, .slice L.aB L.bals.length L.cB] 28)) (.cells #[.int .i64 r.id, .int .i64 r.el, .int .i64 r.from_, .int .i64 r.to_, .int .i64 r.speed, .bool r.act] 31)) y.is)))).mono ?_
      rintro e w' ⟨y2, rfl, rfl⟩
      rw [HX.out]
      have hi0 : (0 : Int) ≤ (i : Int) := by omega
      go_wp2_with fail
      go_ret2
      exact ⟨_, ret_vi E1.out.symm, by rw [E2.out]; exact OwnL.nil, etr (eal (eal (Ext.refl w) (.cells #[.string L.name, .slice L.aS L.secs.length L.cS, .slice L.aE L.els.length L.cE, .slice L.aJ L.jts.length L.cJ, .slice L.aG L.sgs.length L.cG, .slice L.aB L.bals.length L.cB] 28)) (.cells #[.int .i64 r.id, .int .i64 r.el, .int .i64 r.from_, .int .i64 r.to_, .int .i64 r.speed, .bool r.act] 31)) y2.is⟩
    | none =>
      have HX : Hid (idxRV r.id l = -1) := idxRV_none hx
      by_cases hl : 16 ≤ l.length
      · obtain ⟨e1, e2⟩ := put_full ho hx hl
        have E1 := Lib.hid e1
        have E2 := Lib.hid e2
        have hl' : (16 : Int) ≤ (l.length : Int) := by omega
        clear e1 e2 hx ho
        go_enter Tryd.func10, Tryd.ntmps10
        go_wp2_with fail
        refine (to_after (chk_any L r _ (HL.out.keep (eal (eal (Ext.refl w) (.cells #[.string L.name, .slice L.aS L.secs.length L.cS, .slice L.aE L.els.length L.cE, .slice L.aJ L.jts.length L.cJ, .slice L.aG L.sgs.length L.cG, .slice L.aB L.bals.length L.cB] 28)) (.cells #[.int .i64 r.id, .int .i64 r.el, .int .i64 r.from_, .int .i64 r.to_, .int .i64 r.speed, .bool r.act] 31))))).mono ?_
        rintro e w' ⟨y, rfl, rfl⟩
        rw [HE.out]
        go_wp2_with fail
        refine (in_after y (index_rs A l c r.id _ HM.out (HR.out.keep (etr (eal (eal (Ext.refl w) (.cells #[.string L.name, .slice L.aS L.secs.length L.cS, .slice L.aE L.els.length L.cE, .slice L.aJ L.jts.length L.cJ, .slice L.aG L.sgs.length L.cG, .slice L.aB L.bals.length L.cB] 28)) (.cells #[.int .i64 r.id, .int .i64 r.el, .int .i64 r.from_, .int .i64 r.to_, .int .i64 r.speed, .bool r.act] 31)) y.is)))).mono ?_
        rintro e w' ⟨y2, rfl, rfl⟩
        rw [HX.out]
        go_wp2_with fail
        go_ret2
        exact ⟨_, ret_vi E1.out.symm, by rw [E2.out]; exact OwnL.nil, etr (eal (eal (Ext.refl w) (.cells #[.string L.name, .slice L.aS L.secs.length L.cS, .slice L.aE L.els.length L.cE, .slice L.aJ L.jts.length L.cJ, .slice L.aG L.sgs.length L.cG, .slice L.aB L.bals.length L.cB] 28)) (.cells #[.int .i64 r.id, .int .i64 r.el, .int .i64 r.from_, .int .i64 r.to_, .int .i64 r.speed, .bool r.act] 31)) y2.is⟩
      · obtain ⟨e1, e2⟩ := put_ok ho hx hl
        have E1 := Lib.hid e1
        have E2 := Lib.hid e2
        have hl' : decide ((16 : Int) ≤ (l.length : Int)) = false := decide_eq_false (by omega)
        clear e1 e2 hx ho
        go_enter Tryd.func10, Tryd.ntmps10
        go_wp2_with fail
        refine (to_after (chk_any L r _ (HL.out.keep (eal (eal (Ext.refl w) (.cells #[.string L.name, .slice L.aS L.secs.length L.cS, .slice L.aE L.els.length L.cE, .slice L.aJ L.jts.length L.cJ, .slice L.aG L.sgs.length L.cG, .slice L.aB L.bals.length L.cB] 28)) (.cells #[.int .i64 r.id, .int .i64 r.el, .int .i64 r.from_, .int .i64 r.to_, .int .i64 r.speed, .bool r.act] 31))))).mono ?_
        rintro e w' ⟨y, rfl, rfl⟩
        rw [HE.out]
        go_wp2_with fail
        refine (in_after y (index_rs A l c r.id _ HM.out (HR.out.keep (etr (eal (eal (Ext.refl w) (.cells #[.string L.name, .slice L.aS L.secs.length L.cS, .slice L.aE L.els.length L.cE, .slice L.aJ L.jts.length L.cJ, .slice L.aG L.sgs.length L.cG, .slice L.aB L.bals.length L.cB] 28)) (.cells #[.int .i64 r.id, .int .i64 r.el, .int .i64 r.from_, .int .i64 r.to_, .int .i64 r.speed, .bool r.act] 31)) y.is)))).mono ?_
        rintro e w' ⟨y2, rfl, rfl⟩
        rw [HX.out]
        have HB2 := Lib.hid (etr (eal (eal (Ext.refl w) (.cells #[.string L.name, .slice L.aS L.secs.length L.cS, .slice L.aE L.els.length L.cE, .slice L.aJ L.jts.length L.cJ, .slice L.aG L.sgs.length L.cG, .slice L.aB L.bals.length L.cB] 28)) (.cells #[.int .i64 r.id, .int .i64 r.el, .int .i64 r.from_, .int .i64 r.to_, .int .i64 r.speed, .bool r.act] 31)) y2.is)
        have z2 : w.heap.size + 1 < y2.val.heap.size := by have := y2.is.size; simp at this; omega
        have OW : Hid (Own (y2.val.setCell ⟨w.heap.size + 1, 5, none⟩ (.bool false)) (w.heap.size + 1) (Rsc (offR r))) :=
          ((Own.new (w := w.alloc (.cells #[.string L.name, .slice L.aS L.secs.length L.cS, .slice L.aE L.els.length L.cE, .slice L.aJ L.jts.length L.cJ, .slice L.aG L.sgs.length L.cG, .slice L.aB L.bals.length L.cB] 28)) (cs := #[.int .i64 r.id, .int .i64 r.el, .int .i64 r.from_, .int .i64 r.to_, .int .i64 r.speed, .bool r.act]) (t := 31) (by simp)).keep y2.is).set 5 (by simp) (.bool false)
        have HB3 : Hid (Ext w (y2.val.setCell ⟨w.heap.size + 1, 5, none⟩ (.bool false))) := eset HB2.out (by omega) _ _
        go_wp2_with fail
        refine (to_after (gtf_rs A l c (offR r) (w.heap.size + 1) _ HM.out (HR.out.keep HB3.out) (OW.out.2.1 0 _ rfl) OW.out.1)).mono ?_
        rintro e w' ⟨y3, rfl, rfl⟩
        have HB4 := Lib.hid (etr HB3.out y3.is)
        have CW := (OW.out.keep y3.is).cells
        have g0 := CW.2 0 _ rfl
        have g1 := CW.2 1 _ rfl
        have g2 := CW.2 2 _ rfl
        have g3 := CW.2 3 _ rfl
        have g4 := CW.2 4 _ rfl
        have g5 := CW.2 5 _ rfl
        have gz := CW.1
        clear CW
        obtain ⟨p, hp, hplc, hcase⟩ : ∃ p : Nat, p ≤ l.length ∧ plcR r.id l = p ∧ ((gtV (offR r).id l = (p : Int)) ∨ (gtV (offR r).id l = -1 ∧ p = l.length)) := by
          show ∃ p : Nat, p ≤ l.length ∧ plcR r.id l = p ∧ ((gtV r.id l = (p : Int)) ∨ (gtV r.id l = -1 ∧ p = l.length))
          refine ⟨plcR r.id l, plcR_le _ _, rfl, ?_⟩
          cases hg : gtO r.id l with
          | some i => obtain ⟨h1, h2⟩ := gtV_some hg; exact .inl (by rw [h1, h2])
          | none => obtain ⟨h1, h2⟩ := gtV_none hg; exact .inr ⟨h1, h2⟩
        have HPL := Lib.hid hplc
        clear hplc
        have hp0 : decide ((p : Int) < 0) = false := decide_eq_false (by omega)
        rcases hcase with hcase | ⟨hcase, hpl⟩
        all_goals rw [hcase]
        · have s1 := fun wx => sl_hi A l.length c p (p : Int) rfl (by have := HC.out; omega) wx
          have s2 := fun wx => sl_lo A l.length c p (p : Int) rfl hp wx
          go_wp2_with fail
          refine wp_region_mono [0, 1, 2, 3, 5, 6, 7] 5 (by kernel_rfl) (by kernel_rfl) (fun _ _ d _ _ h => by cases d <;> exact h) (by kernel_rfl) (by kernel_rfl) ?_
          repeat (refine wpE_step rfl (fun K hK => ?_); go_simp; (refine hK _ ?_; clear hK K))
          refine wpE_nil ?_
          intro x
          have HBx := Lib.hid (etr HB4.out x.is)
          refine wpAnyR_ready (rs := [4]) (by kernel_rfl) (by simp) (AllR.cons rfl (fun K hK => ?_) AllR.nil)
          go_simp
          refine hK _ _ (eal (Ext.refl _) _) (fun z => ?_)
          clear hK K
          have HBz := Lib.hid (etr (eal HBx.out (.cells #[.int .i64 r.id, .int .i64 r.el, .int .i64 r.from_, .int .i64 r.to_, .int .i64 r.speed, .bool false] 31)) z.is)
          have HCz : Hid (CellsAt z.val x.val.heap.size (Rsc (offR r))) := (CellsAt.new rfl).keep z.is
          refine wpAnyR_ready (rs := [8]) (by kernel_rfl) (by simp) (AllR.cons rfl (fun K hK => ?_) AllR.nil)
          go_simp
          refine hK _ _ (eal (Ext.refl _) _) (fun z2 => ?_)
          clear hK K
          have HBz2 := Lib.hid (etr (eal HBz.out (.cells #[.slice A p c, .slice (some ⟨x.val.heap.size, 0, none⟩) 1 1, .slice (dropA A c p 6) (l.length - p) (c - p)] 29)) z2.is)
          have HCz2 : Hid (CellsAt z2.val x.val.heap.size (Rsc (offR r))) := (HCz.out.keep (eal (Ext.refl _) _)).keep z2.is
          have HSL : Hid (CellsAt z2.val z.val.heap.size (List.map SrcRs.val [⟨A, l.take p, c⟩, ⟨some ⟨x.val.heap.size, 0, none⟩, [offR r], 1⟩, ⟨dropA A c p 6, l.drop p, c - p⟩])) := by
            show CellsAt _ _ _
            have : List.map SrcRs.val [⟨A, l.take p, c⟩, ⟨some ⟨x.val.heap.size, 0, none⟩, [offR r], 1⟩, ⟨dropA A c p 6, l.drop p, c - p⟩] = (#[.slice A p c, .slice (some ⟨x.val.heap.size, 0, none⟩) 1 1, .slice (dropA A c p 6) (l.length - p) (c - p)] : Array Value).toList := by
              simp [SrcRs.val] <;> omega
            rw [this]
            exact (CellsAt.new rfl).keep z2.is
          refine wpAnyR_ready (rs := [9]) (by kernel_rfl) (by simp) (AllR.cons rfl (fun K hK => ?_) AllR.nil)
          go_simp
          go_wp2_with (go_at_call 30; refine (concat_Rs [⟨A, l.take p, c⟩, ⟨some ⟨x.val.heap.size, 0, none⟩, [offR r], 1⟩, ⟨dropA A c p 6, l.drop p, c - p⟩] z.val.heap.size 3 _ HSL.out (fun j t hj => by
                         have : j = 0 ∨ j = 1 ∨ j = 2 := by have := (List.getElem?_eq_some_iff.1 hj).1; simp at this; omega
                         rcases this with rfl | rfl | rfl
                         · simp at hj; subst hj; exact rd_take (HR.out.keep HBz2.out) p
                         · simp at hj; subst hj; exact rd_cells Rsc_len (by simpa using HCz2.out)
                         · simp at hj; subst hj; exact rd_dropA (HR.out.keep HBz2.out) HC.out p) (by simp) (by simp [SrcRs.all]; omega)).mono ?_; rintro e w5 ⟨v5, rfl, ho5, hb5⟩; have HO5 := Lib.hid ho5; have HB5 := Lib.hid hb5; clear ho5 hb5)
          refine hK _ _ HB5.out (fun z8 => ?_)
          clear hK K
          (refine wpAnyR_more [10, 11] (fuel := 0) (by kernel_rfl) (fun _ _ d _ _ h => by cases d <;> exact h) (by kernel_rfl) rfl ?_)
          repeat (refine wpE_step rfl (fun K hK => ?_); go_simp; (refine hK _ ?_; clear hK K))
          refine wpE_nil ?_
          intro z9
          have HO9 := Lib.hid (((HO5.out.keep z8.is).keep z9.is).mono (b' := w.heap.size) (esz HBz2.out))
          refine wpAnyR_done (by kernel_rfl) ?_ _
          go_wp2
          go_ret2
          exact ⟨_, ret_vi E1.out.symm, by rw [E2.out, HPL.out]; simpa [SrcRs.all] using HO9.out, etr (etr (etr HBz2.out HB5.out) z8.is) z9.is⟩
        · have s1 := fun wx => sl_hi A l.length c p (l.length : Int) (by omega) (by have := HC.out; omega) wx
          have s2 := fun wx => sl_lo A l.length c p (l.length : Int) (by omega) hp wx
          have HPP := Lib.hid hpl
          clear hpl
          go_wp2_with fail
          refine wp_region_mono [0, 1, 2, 3, 5, 6, 7] 5 (by kernel_rfl) (by kernel_rfl) (fun _ _ d _ _ h => by cases d <;> exact h) (by kernel_rfl) (by kernel_rfl) ?_
          repeat (refine wpE_step rfl (fun K hK => ?_); go_simp; (refine hK _ ?_; clear hK K))
          refine wpE_nil ?_
          intro x
          have HBx := Lib.hid (etr HB4.out x.is)
          refine wpAnyR_ready (rs := [4]) (by kernel_rfl) (by simp) (AllR.cons rfl (fun K hK => ?_) AllR.nil)
          go_simp
          refine hK _ _ (eal (Ext.refl _) _) (fun z => ?_)
          clear hK K
          have HBz := Lib.hid (etr (eal HBx.out (.cells #[.int .i64 r.id, .int .i64 r.el, .int .i64 r.from_, .int .i64 r.to_, .int .i64 r.speed, .bool false] 31)) z.is)
          have HCz : Hid (CellsAt z.val x.val.heap.size (Rsc (offR r))) := (CellsAt.new rfl).keep z.is
          refine wpAnyR_ready (rs := [8]) (by kernel_rfl) (by simp) (AllR.cons rfl (fun K hK => ?_) AllR.nil)
          go_simp
          refine hK _ _ (eal (Ext.refl _) _) (fun z2 => ?_)
          clear hK K
          have HBz2 := Lib.hid (etr (eal HBz.out (.cells #[.slice A p c, .slice (some ⟨x.val.heap.size, 0, none⟩) 1 1, .slice (dropA A c p 6) (l.length - p) (c - p)] 29)) z2.is)
          have HCz2 : Hid (CellsAt z2.val x.val.heap.size (Rsc (offR r))) := (HCz.out.keep (eal (Ext.refl _) _)).keep z2.is
          have HSL : Hid (CellsAt z2.val z.val.heap.size (List.map SrcRs.val [⟨A, l.take p, c⟩, ⟨some ⟨x.val.heap.size, 0, none⟩, [offR r], 1⟩, ⟨dropA A c p 6, l.drop p, c - p⟩])) := by
            show CellsAt _ _ _
            have : List.map SrcRs.val [⟨A, l.take p, c⟩, ⟨some ⟨x.val.heap.size, 0, none⟩, [offR r], 1⟩, ⟨dropA A c p 6, l.drop p, c - p⟩] = (#[.slice A p c, .slice (some ⟨x.val.heap.size, 0, none⟩) 1 1, .slice (dropA A c p 6) (l.length - p) (c - p)] : Array Value).toList := by
              simp [SrcRs.val] <;> omega
            rw [this]
            exact (CellsAt.new rfl).keep z2.is
          refine wpAnyR_ready (rs := [9]) (by kernel_rfl) (by simp) (AllR.cons rfl (fun K hK => ?_) AllR.nil)
          go_simp
          go_wp2_with (go_at_call 30; refine (concat_Rs [⟨A, l.take p, c⟩, ⟨some ⟨x.val.heap.size, 0, none⟩, [offR r], 1⟩, ⟨dropA A c p 6, l.drop p, c - p⟩] z.val.heap.size 3 _ HSL.out (fun j t hj => by
                         have : j = 0 ∨ j = 1 ∨ j = 2 := by have := (List.getElem?_eq_some_iff.1 hj).1; simp at this; omega
                         rcases this with rfl | rfl | rfl
                         · simp at hj; subst hj; exact rd_take (HR.out.keep HBz2.out) p
                         · simp at hj; subst hj; exact rd_cells Rsc_len (by simpa using HCz2.out)
                         · simp at hj; subst hj; exact rd_dropA (HR.out.keep HBz2.out) HC.out p) (by simp) (by simp [SrcRs.all]; omega)).mono ?_; rintro e w5 ⟨v5, rfl, ho5, hb5⟩; have HO5 := Lib.hid ho5; have HB5 := Lib.hid hb5; clear ho5 hb5)
          refine hK _ _ HB5.out (fun z8 => ?_)
          clear hK K
          (refine wpAnyR_more [10, 11] (fuel := 0) (by kernel_rfl) (fun _ _ d _ _ h => by cases d <;> exact h) (by kernel_rfl) rfl ?_)
          repeat (refine wpE_step rfl (fun K hK => ?_); go_simp; (refine hK _ ?_; clear hK K))
          refine wpE_nil ?_
          intro z9
          have HO9 := Lib.hid (((HO5.out.keep z8.is).keep z9.is).mono (b' := w.heap.size) (esz HBz2.out))
          refine wpAnyR_done (by kernel_rfl) ?_ _
          go_wp2
          go_ret2
          exact ⟨_, ret_vi E1.out.symm, by rw [E2.out, HPL.out]; simpa [SrcRs.all] using HO9.out, etr (etr (etr HBz2.out HB5.out) z8.is) z9.is⟩
  · obtain ⟨e1, e2⟩ := @put_bad L.els l r ho
    have E1 := Lib.hid e1
    have E2 := Lib.hid e2
    have HE : Hid (chkE L.els r = 1) := if_neg ho
    clear e1 e2 ho
    go_enter Tryd.func10, Tryd.ntmps10
    go_wp2_with fail
    refine (to_after (chk_any L r _ (HL.out.keep (eal (eal (Ext.refl w) (.cells #[.string L.name, .slice L.aS L.secs.length L.cS, .slice L.aE L.els.length L.cE, .slice L.aJ L.jts.length L.cJ, .slice L.aG L.sgs.length L.cG, .slice L.aB L.bals.length L.cB] 28)) (.cells #[.int .i64 r.id, .int .i64 r.el, .int .i64 r.from_, .int .i64 r.to_, .int .i64 r.speed, .bool r.act] 31))))).mono ?_
    rintro e w' ⟨y, rfl, rfl⟩
    rw [HE.out]
    go_wp2_with fail
    go_ret2
    exact ⟨_, ret_vi E1.out.symm, by rw [E2.out]; exact OwnL.nil, etr (eal (eal (Ext.refl w) (.cells #[.string L.name, .slice L.aS L.secs.length L.cS, .slice L.aE L.els.length L.cE, .slice L.aJ L.jts.length L.cJ, .slice L.aG L.sgs.length L.cG, .slice L.aB L.bals.length L.cB] 28)) (.cells #[.int .i64 r.id, .int .i64 r.el, .int .i64 r.from_, .int .i64 r.to_, .int .i64 r.speed, .bool r.act] 31)) y.is⟩
set_option maxHeartbeats 8000000 in
theorem set_any (A : Option Addr) (l : List Rst) (c : Nat) (id : Int) (a : Bool) (w : World) (hm : l.length ≤ 400000) (hc : l.length ≤ c) (hr : Rd w A 6 Rsc l) :
    Calls Tryd.prog 15 #[.slice A l.length c, .int .i64 id, .bool a] w fun e w' => ∃ v, e = .returned (.tuple #[v, .int .i64 (setE l id a)]) ∧ OwnL w' w.heap.size 31 6 Rsc v (setL l id a) ∧ Below w.heap.size w w' := by
  have HM : Hid (l.length ≤ maxLen) := by show _ ≤ _; unfold maxLen; omega
  have HR := Lib.hid hr
  have HC := Lib.hid hc
  clear hr hc
  cases hx : idxR id l with
  | none =>
    obtain ⟨e1, e2⟩ := set_none (a := a) hx
    have E1 := Lib.hid e1
    have E2 := Lib.hid e2
    have HX : Hid (idxRV id l = -1) := idxRV_none hx
    clear e1 e2 hx
    go_enter Tryd.func15, Tryd.ntmps15
    go_wp2_with fail
    refine (to_after (index_rs A l c id _ HM.out HR.out)).mono ?_
    rintro e w' ⟨y, rfl, rfl⟩
    rw [HX.out]
    go_wp2_with fail
    go_ret2
    exact ⟨_, ret_vi E1.out.symm, by rw [E2.out]; exact OwnL.nil, y.is⟩
  | some i =>
    have HX : Hid (idxRV id l = i) := idxRV_some hx
    obtain ⟨p, hp, _, _⟩ := idxR_at hx
    have hil : i < l.length := (List.getElem?_eq_some_iff.1 hp).1
    have HP := Lib.hid hp
    have HXO := Lib.hid hx
    have hi0 : decide ((i : Int) < 0) = false := decide_eq_false (by omega)
    clear hx hp
    cases a with
    | true =>
      go_enter Tryd.func15, Tryd.ntmps15
      go_wp2_with fail
      refine (to_after (index_rs A l c id _ HM.out HR.out)).mono ?_
      rintro e w' ⟨y, rfl, rfl⟩
      rw [HX.out]
      obtain ⟨b, off, p', rfl, hp', hbs, c0, c1, c2, c3, c4, c5⟩ := rd_rs HR.out y.is hil
      obtain rfl : p = p' := by have := HP.out; rw [hp'] at this; cases this; rfl
      clear hp'
      have c5' : y.val.cell? ⟨b, off + i * 6 + 5, none⟩ = some (.bool p.act) := c5
      cases ha : p.act with
      | true =>
        obtain ⟨e1, e2⟩ := set_state HXO.out HP.out ha
        have E1 := Lib.hid e1
        have E2 := Lib.hid e2
        rw [ha] at c5 c5'
        clear e1 e2 ha
        go_wp2_with fail
        go_ret2
        exact ⟨_, ret_vi E1.out.symm, by rw [E2.out]; exact OwnL.nil, y.is⟩
      | false =>
        obtain ⟨e1, e2⟩ := set_on HXO.out HP.out ha
        have E1 := Lib.hid e1
        have E2 := Lib.hid e2
        rw [ha] at c5 c5'
        clear e1 e2 ha
        go_wp2_with fail
        refine (clone_Rs _ l c _ (by omega) (HR.out.keep y.is)).mono ?_
        rintro e w1 ⟨v1, rfl, ho1, hb1⟩
        obtain ⟨g, cap, rfl, hgc, hgb, hown⟩ := ho1.form (by omega)
        have HO1 := Lib.hid ho1
        have HB1 := Lib.hid (etr y.is hb1)
        have hz : g < w1.heap.size := hown.1
        have hcl : w1.cell? ⟨g, i * 6 + 5, none⟩ = some (.bool p.act) := hown.2.1 _ _ (flat_at Rsc_len l i 5 p _ HP.out rfl)
        have hf : w1.frozen? ⟨g, i * 6 + 5, none⟩ = false := hown.2.2 _
        have hsz := y.is.size
        clear ho1 hb1 hown c0 c1 c2 c3 c4 c5 c5' hbs
        go_wp2_with fail
        go_ret2
        exact ⟨_, ret_vi E1.out.symm, by rw [E2.out]; exact (HO1.out.stored Rsc_len i 5 p (onR p) (.bool true) HP.out rfl (by decide)).mono (esz y.is), eset HB1.out (by omega) _ _⟩
    | false =>
      obtain ⟨e1, e2⟩ := set_off HXO.out
      have E1 := Lib.hid e1
      have E2 := Lib.hid e2
      clear e1 e2
      go_enter Tryd.func15, Tryd.ntmps15
      go_wp2_with fail
      refine (to_after (index_rs A l c id _ HM.out HR.out)).mono ?_
      rintro e w' ⟨y, rfl, rfl⟩
      rw [HX.out]
      have n1 : IntKind.i64.wrap ((i : Int) + 1) = (i : Int) + 1 := IntWalk.i64_in _ (by omega)
      have s1 := fun wx => sl_hi A l.length c i (i : Int) rfl (by have := HC.out; omega) wx
      have s2 := fun wx => sl_lo A l.length c (i + 1) ((i : Int) + 1) (by omega) (by omega) wx
      go_wp2_with fail
      refine wp_region_mono [0, 1, 2, 3, 4, 5, 6] 4 (by kernel_rfl) (by kernel_rfl) (fun _ _ d _ _ h => by cases d <;> exact h) (by kernel_rfl) (by kernel_rfl) ?_
      repeat (refine wpE_step rfl (fun K hK => ?_); go_simp; (refine hK _ ?_; clear hK K))
      refine wpE_nil ?_
      intro x
      have HBx := Lib.hid (etr y.is x.is)
      refine wpAnyR_ready (rs := [7]) (by kernel_rfl) (by simp) (AllR.cons rfl (fun K hK => ?_) AllR.nil)
      go_simp
      refine hK _ _ (eal (Ext.refl _) _) (fun z2 => ?_)
      clear hK K
      have HBz2 := Lib.hid (etr (eal HBx.out (.cells #[.slice A i c, .slice (dropA A c (i + 1) 6) (l.length - (i + 1)) (c - (i + 1))] 29)) z2.is)
      have HSL : Hid (CellsAt z2.val x.val.heap.size (List.map SrcRs.val [⟨A, l.take i, c⟩, ⟨dropA A c (i + 1) 6, l.drop (i + 1), c - (i + 1)⟩])) := by
        show CellsAt _ _ _
        have : List.map SrcRs.val [⟨A, l.take i, c⟩, ⟨dropA A c (i + 1) 6, l.drop (i + 1), c - (i + 1)⟩] = (#[.slice A i c, .slice (dropA A c (i + 1) 6) (l.length - (i + 1)) (c - (i + 1))] : Array Value).toList := by
          simp [SrcRs.val] <;> omega
        rw [this]
        exact (CellsAt.new rfl).keep z2.is
      refine wpAnyR_ready (rs := [8]) (by kernel_rfl) (by simp) (AllR.cons rfl (fun K hK => ?_) AllR.nil)
      go_simp
      go_wp2_with (go_at_call 30; refine (concat_Rs [⟨A, l.take i, c⟩, ⟨dropA A c (i + 1) 6, l.drop (i + 1), c - (i + 1)⟩] x.val.heap.size 2 _ HSL.out (fun j t hj => by
                     have : j = 0 ∨ j = 1 := by have := (List.getElem?_eq_some_iff.1 hj).1; simp at this; omega
                     rcases this with rfl | rfl
                     · simp at hj; subst hj; exact rd_take (HR.out.keep HBz2.out) i
                     · simp at hj; subst hj; exact rd_dropA (HR.out.keep HBz2.out) HC.out (i + 1)) (by simp) (by simp [SrcRs.all]; omega)).mono ?_; rintro e w5 ⟨v5, rfl, ho5, hb5⟩; have HO5 := Lib.hid ho5; have HB5 := Lib.hid hb5; clear ho5 hb5)
      refine hK _ _ HB5.out (fun z8 => ?_)
      clear hK K
      (refine wpAnyR_more [9, 10] (fuel := 0) (by kernel_rfl) (fun _ _ d _ _ h => by cases d <;> exact h) (by kernel_rfl) rfl ?_)
      repeat (refine wpE_step rfl (fun K hK => ?_); go_simp; (refine hK _ ?_; clear hK K))
      refine wpE_nil ?_
      intro z9
      have HO9 := Lib.hid (((HO5.out.keep z8.is).keep z9.is).mono (b' := w.heap.size) (esz HBz2.out))
      refine wpAnyR_done (by kernel_rfl) ?_ _
      go_wp2
      go_ret2
      exact ⟨_, ret_vi E1.out.symm, by rw [E2.out]; simpa [SrcRs.all] using HO9.out, etr (etr (etr HBz2.out HB5.out) z8.is) z9.is⟩
set_option maxHeartbeats 8000000 in
theorem rset_any (A : Option Addr) (l : List Rst) (c : Nat) (id : Int) (a : Bool) (w : World) (hm : l.length ≤ 400000) (hc : l.length ≤ c) (hr : Rd w A 6 Rsc l) :
    Calls Tryd.prog 16 #[.slice A l.length c, .int .i64 id, .bool a] w fun e w' => ∃ v, e = .returned (.tuple #[v, .int .i64 (setE l id a)]) ∧ OwnL w' w.heap.size 31 6 Rsc v (setL l id a) ∧ Below w.heap.size w w' := by
  have HM : Hid (l.length ≤ maxLen) := by show _ ≤ _; unfold maxLen; omega
  have HR := Lib.hid hr
  have HC := Lib.hid hc
  clear hr hc
  obtain ⟨i0, hi, hz0, hz1, hz2⟩ := info_parts inf_Rs
  have HI := Lib.hid hi
  clear hi
  cases hx : idxR id l with
  | none =>
    obtain ⟨e1, e2⟩ := set_none (a := a) hx
    have E1 := Lib.hid e1
    have E2 := Lib.hid e2
    have HX : Hid (idxRV id l = -1) := idxRV_none hx
    clear e1 e2 hx
    go_enter Tryd.func16, Tryd.ntmps16
    go_wp2_with fail
    refine (to_after (place_rs A l c id _ HM.out HR.out)).mono ?_
    rintro e w' ⟨y, rfl, rfl⟩
    rw [HX.out]
    go_wp2_with fail
    go_ret2
    exact ⟨_, ret_vi E1.out.symm, by rw [E2.out]; exact OwnL.nil, y.is⟩
  | some i =>
    have HX : Hid (idxRV id l = i) := idxRV_some hx
    obtain ⟨p, hp, _, _⟩ := idxR_at hx
    have hil : i < l.length := (List.getElem?_eq_some_iff.1 hp).1
    have HP := Lib.hid hp
    have HXO := Lib.hid hx
    have hi0 : decide ((i : Int) < 0) = false := decide_eq_false (by omega)
    clear hx hp
    cases a with
    | true =>
      go_enter Tryd.func16, Tryd.ntmps16
      go_wp2_with fail
      refine (to_after (place_rs A l c id _ HM.out HR.out)).mono ?_
      rintro e w' ⟨y, rfl, rfl⟩
      rw [HX.out]
      obtain ⟨b, off, p', rfl, hp', hbs, c0, c1, c2, c3, c4, c5⟩ := rd_rs HR.out y.is hil
      obtain rfl : p = p' := by have := HP.out; rw [hp'] at this; cases this; rfl
      clear hp'
      have c5' : y.val.cell? ⟨b, off + i * 6 + 5, none⟩ = some (.bool p.act) := c5
      cases ha : p.act with
      | true =>
        obtain ⟨e1, e2⟩ := set_state HXO.out HP.out ha
        have E1 := Lib.hid e1
        have E2 := Lib.hid e2
        rw [ha] at c5 c5'
        clear e1 e2 ha
        go_wp2_with fail
        go_ret2
        exact ⟨_, ret_vi E1.out.symm, by rw [E2.out]; exact OwnL.nil, y.is⟩
      | false =>
        obtain ⟨e1, e2⟩ := set_on HXO.out HP.out ha
        have E1 := Lib.hid e1
        have E2 := Lib.hid e2
        rw [ha] at c5 c5'
        clear e1 e2 ha
        go_wp2_with (at_builtin
                     refine wp_appL (u := y.val) Rsc_len Rsc_one Tryd.underlying29 HI.out hz0 hz1 hz2 rfl (by decide) rfl rfl rfl OwnL.nil (Ext.refl _) l _ c (by simp [go_sem]) (HR.out.keep y.is) (by simp; omega) (by simp; exact HM.out) ?_
                     intro v1 w1 H1
                     simp only [List.nil_append] at H1
                     obtain ⟨g, cap, rfl, hgc, hgb, hown⟩ := H1.out.1.form (by omega)
                     have HO1 := Lib.hid H1.out.1
                     have HB1 := Lib.hid (etr y.is H1.out.2.1)
                     have hz : g < w1.heap.size := hown.1
                     have hcl : w1.cell? ⟨g, i * 6 + 5, none⟩ = some (.bool p.act) := hown.2.1 _ _ (flat_at Rsc_len l i 5 p _ HP.out rfl)
                     have hf : w1.frozen? ⟨g, i * 6 + 5, none⟩ = false := hown.2.2 _
                     have hsz := y.is.size
                     clear hown c0 c1 c2 c3 c4 c5 c5' hbs H1)
        go_ret2
        exact ⟨_, ret_vi E1.out.symm, by rw [E2.out]; exact (HO1.out.stored Rsc_len i 5 p (onR p) (.bool true) HP.out rfl (by decide)).mono (esz y.is), eset HB1.out (by omega) _ _⟩
    | false =>
      obtain ⟨e1, e2⟩ := set_off HXO.out
      have E1 := Lib.hid e1
      have E2 := Lib.hid e2
      clear e1 e2
      go_enter Tryd.func16, Tryd.ntmps16
      go_wp2_with fail
      refine (to_after (place_rs A l c id _ HM.out HR.out)).mono ?_
      rintro e w' ⟨y, rfl, rfl⟩
      rw [HX.out]
      have n1 : IntKind.i64.wrap ((i : Int) + 1) = (i : Int) + 1 := IntWalk.i64_in _ (by omega)
      go_wp2_with (at_builtin
                   refine wp_appL (u := y.val) Rsc_len Rsc_one Tryd.underlying29 HI.out hz0 hz1 hz2 rfl (by decide) rfl rfl rfl OwnL.nil (Ext.refl _) l A c (by simp [go_sem]) (HR.out.keep y.is) (by simp; omega) (by simp; exact HM.out) ?_
                   intro v1 w1 H1)
      simp only [List.nil_append] at H1
      obtain ⟨g, cap, rfl, hgc, hgb, hown⟩ := H1.out.1.form (by omega)
      have HO1 := Lib.hid H1.out.1
      have HB1 := Lib.hid (etr y.is H1.out.2.1)
      have H1E := Lib.hid H1.out.2.1
      have hsz := y.is.size
      have hz : g < w1.heap.size := hown.1
      clear hown H1
      have s1 := fun wx => sl_hi (some ⟨g, 0, none⟩) l.length cap i (i : Int) rfl (by omega) wx
      have s2 := fun wx => sl_lo (some ⟨g, 0, none⟩) l.length cap (i + 1) ((i : Int) + 1) (by omega) (by omega) wx
      go_wp2_with fail
      refine wp_tail_after 7 (by kernel_rfl) (by kernel_rfl) ?_
      simp only [List.take_succ_cons, List.take_zero, List.drop_succ_cons, List.drop_zero]
      repeat (first | go_big_quiet_step (fail))
      refine wpQuiet_nil ?_
      rintro _ ⟨x, rfl⟩
      have HOx := Lib.hid (OwnL.front Rsc_len (HO1.out.keep x.is) i (by omega))
      have HRx : Hid (Rd x.val (dropA (some ⟨g, 0, none⟩) cap (i + 1) 6) 6 Rsc (l.drop (i + 1))) := rd_dropA (rd_cells Rsc_len ⟨by have := x.is.size; omega, fun j u hj => by
        have := World.ownsRow.cells (HO1.out.keep x.is) (g := g) rfl j u hj
        rw [add_plain, Nat.zero_add] at this
        exact this⟩) hgc (i + 1)
      go_wp2_with (at_builtin
                   refine wp_appL (u := y.val) Rsc_len Rsc_one Tryd.underlying29 HI.out hz0 hz1 hz2 rfl (by decide) rfl rfl rfl HOx.out (etr H1E.out x.is) (l.drop (i + 1)) _ (cap - (i + 1)) (by simp [go_sem]) HRx.out (by simp; omega) (by simp; have := HM.out; omega) ?_
                   intro v2 w2 H2)
      go_ret2
      exact ⟨_, ret_vi E1.out.symm, by rw [E2.out]; exact H2.out.1.mono (esz y.is), etr y.is H2.out.2.1⟩
end Go.Proofs.YtacnfchoemndeaaDoor
