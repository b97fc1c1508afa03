/- Walks of chapter 31's laws, continued: OdometerContains. -/
import Derived.Test.YtehpeihnaaiknaaWLawE
import Derived.Test.YtehpeihnaaiknaaPOdo
import Derived.Test.YtehpeihnaaiknaaRd
import Derived.Deep.Cut
set_option linter.unusedVariables false
set_option linter.unusedSimpArgs false
namespace Go.Proofs.Ytehpeihnaaiknaa
open Go.ChangeShapes Go.WideShapes Go.ChangeAt Go.RowKit
open Sg

structure Mv where
  d : Int
  slip : Int
  balise : Int
def Mv.enc (m : Mv) : List Value := [.int .i64 m.d, .int .i64 m.slip, .int .i64 m.balise]
set_option maxRecDepth 100000 in
set_option maxHeartbeats 4000000 in
theorem contains_walk (T : Tr) (A : Option Addr) (xs : List Mv) (cap : Nat) (w : World) (hs : T.name.size ≤ maxLen) (hm : xs.length ≤ maxLen) (hrd : Rd w A 3 Mv.enc xs) :
    Calls Try.prog 7 #[.agg #[.int .i64 T.id, .string T.name, .int .i64 T.len, .int .i64 T.speed, .int .i64 T.accel, .int .i64 T.service, .int .i64 T.emergency, .int .i64 T.delay, .int .i64 T.cons, .int .i64 T.rate], .slice A xs.length cap] w fun e w' => e = .returned (.bool true) ∧ Below w.heap.size w w' := by
  unfold maxLen at hm
  have HR := Lib.hid hrd
  clear hrd
  by_cases hk : chkE T = 0
  · have ok := chkE_ok hk
    have hc := ok.cons
    have hr := ok.rate
    have hk' : (chkE T != 0) = false := by simp [hk]
    clear hk ok
    by_cases hl : xs.length ≤ 60
    · have hl' : decide (60 < xs.length) = false := by simpa using hl
      go_enter Try.func7, Try.ntmps7
      go_wp2_with (go_at_call 8; refine (to_after (rcheck_any T _ hs)).mono ?_; rintro e w' ⟨x, rfl, rfl⟩)
      have hx0 : w.heap.size < x.val.heap.size := by have := x.is.size; simp at this; omega
      go_loopg [5, 23] xs.length (fun g vx i wr => ∃ (k : Nat) (p : Int) (E : Es), i = .int .i64 k ∧ k ≤ xs.length ∧ g = xs.length - k ∧ vx = .int .i64 p ∧ 0 ≤ p ∧ p ≤ 1000000 * k ∧ Hid (Below w.heap.size w wr ∧ CellsAt wr w.heap.size [.int .i64 T.id, .string T.name, .int .i64 T.len, .int .i64 T.speed, .int .i64 T.accel, .int .i64 T.service, .int .i64 T.emergency, .int .i64 T.delay, .int .i64 T.cons, .int .i64 T.rate] ∧ Own wr x.val.heap.size [.int .i64 E.min, .int .i64 E.max, .int .i64 E.speed] ∧ E.min ≤ p ∧ p ≤ E.max ∧ (-1073741824 ≤ E.min ∧ E.min ≤ 1073741824) ∧ (-1073741824 ≤ E.max ∧ E.max ≤ 1073741824)))
      case atStart =>
        have b0 := ((Below.refl _ _).alloc (Nat.le_refl _) _).trans (x.is.mono (by simp))
        exact ⟨0, 0, ⟨0, 0, 0⟩, rfl, by omega, rfl, rfl, by omega, by omega, b0.alloc b0.size _, CellsAt.alloc ((CellsAt.new rfl).keep x.is) _, Own.new rfl, by decide, by decide, by decide, by decide⟩
      case round =>
        obtain ⟨k, p, E, rfl, hk1, hg, rfl, p0, p1, H⟩ := hrel
        have HG := Lib.hid hg
        clear hg
        by_cases hlt : k < xs.length
        · obtain ⟨hbw, ht, hE, e1, e2, e3, e4⟩ := H.out
          obtain ⟨b, off, rfl, hbs, hcell⟩ := HR.out (by omega)
          obtain ⟨m, hmx⟩ : ∃ m, xs[k]? = some m := ⟨_, List.getElem?_eq_getElem hlt⟩
          have cb : ∀ o, wr.cell? ⟨b, o, none⟩ = w.cell? ⟨b, o, none⟩ := fun o => hbw.cell (p := ⟨b, o, none⟩) hbs
          have m0 : wr.cell? ⟨b, off + k * 3, none⟩ = some (.int .i64 m.d) := (cb _).trans (hcell k m hmx 0 _ rfl)
          have m1 : wr.cell? ⟨b, off + k * 3 + 1, none⟩ = some (.int .i64 m.slip) := (cb _).trans (hcell k m hmx 1 _ rfl)
          have m2 : wr.cell? ⟨b, off + k * 3 + 1 + 1, none⟩ = some (.int .i64 m.balise) := (cb _).trans (hcell k m hmx 2 _ rfl)
          clear cb hcell hmx
          by_cases hd : 0 ≤ m.d ∧ m.d ≤ 1000000
          · obtain ⟨d1, d2⟩ := hd
            have sT := ht.1
            have sE := hE.1
            have t0 := ht.2 0 _ rfl
            have t1 := ht.2 1 _ rfl
            have t2 := ht.2 2 _ rfl
            have t3 := ht.2 3 _ rfl
            have t4 := ht.2 4 _ rfl
            have t5 := ht.2 5 _ rfl
            have t6 := ht.2 6 _ rfl
            have t7 := ht.2 7 _ rfl
            have t8 := ht.2 8 _ rfl
            have t9 := ht.2 9 _ rfl
            have E0 := hE.2.1 0 _ rfl
            have E1 := hE.2.1 1 _ rfl
            have E2 := hE.2.1 2 _ rfl
            have fz := hE.2.2
            obtain ⟨n1, n2, n3, n4, n5⟩ := contains_step m.slip hc hr d1 d2 p0 (show p ≤ 100000000 by omega) e1 e2 e3 e4
            obtain ⟨F, hF⟩ : ∃ F, F = addV T.cons T.rate E (measV T.cons T.rate m.d m.slip) := ⟨_, rfl⟩
            rw [← hF] at n1 n2 n3 n4 n5
            have HF := Lib.hid hF
            have B3 := Lib.hid e3
            have B4 := Lib.hid e4
            clear hbw ht hE e1 e2 e3 e4 hF
            go_wp2_with fail
            refine wp_tail_after 9 (by kernel_rfl) (by kernel_rfl) ?_
            simp only [List.take_succ_cons, List.take_zero, List.drop_succ_cons, List.drop_zero]
            repeat (first | go_big_quiet_step ((first
              | (go_at_call 9; exact after_call _ (meas_any T _ _ _ hc hr))
              | (go_at_call 14; exact after_call _ (add_any T E _ _ hc hr B3.out B4.out)))))
            refine wpQuiet_nil ?_
            rintro _ ⟨y, rfl⟩
            rw [← HF.out]
            have hEy : Own y.val x.val.heap.size [.int .i64 E.min, .int .i64 E.max, .int .i64 E.speed] := (H.out.2.2.1.alloc _).keep y.is
            have hTy := (H.out.2.1.alloc _).keep y.is
            have hMy := (Own.new (w := wr) (cs := #[.int .i64 m.d, .int .i64 m.slip, .int .i64 m.balise]) (t := 43) rfl).keep y.is
            have hBy := (H.out.1.alloc H.out.1.size _).trans (y.is.mono (by have := H.out.1.size; simp; omega))
            obtain ⟨w2, hw2, o2, on2⟩ := set3 (.int .i64 F.min) (.int .i64 F.max) (.int .i64 F.speed) hEy rfl
            have hT2 := hTy.only on2 (by omega)
            have hM2 := hMy.only on2 (by omega)
            have HB2 := Lib.hid (Below.only hBy on2 (by omega))
            have HT2 := Lib.hid hT2
            have HM2 := Lib.hid hM2
            have HO2 := Lib.hid o2
            clear t0 t1 t2 t3 t4 t5 t6 t7 t8 t9 E0 E1 E2 fz hTy hMy hBy on2
            have yE0 := hEy.2.1 0 _ rfl
            have yE1 := hEy.2.1 1 _ rfl
            have yE2 := hEy.2.1 2 _ rfl
            have yfz := hEy.2.2
            have HW2 := Lib.hid hw2
            clear hEy hw2 hT2 hM2 o2
            go_upto_region 12 with (fail)
            rw [← HW2.out]
            clear yE0 yE1 yE2 yfz HW2
            have t0 := HT2.out.2 0 _ rfl
            have t1 := HT2.out.2 1 _ rfl
            have t2 := HT2.out.2 2 _ rfl
            have t3 := HT2.out.2 3 _ rfl
            have t4 := HT2.out.2 4 _ rfl
            have t5 := HT2.out.2 5 _ rfl
            have t6 := HT2.out.2 6 _ rfl
            have t7 := HT2.out.2 7 _ rfl
            have t8 := HT2.out.2 8 _ rfl
            have t9 := HT2.out.2 9 _ rfl
            have E0 := HO2.out.2.1 0 _ rfl
            have E1 := HO2.out.2.1 1 _ rfl
            have E2 := HO2.out.2.1 2 _ rfl
            have q0 := HM2.out.2.1 0 _ rfl
            have q1 := HM2.out.2.1 1 _ rfl
            have q2 := HM2.out.2.1 2 _ rfl
            have z0 := HT2.out.1
            have z1 := HO2.out.1
            have z2 := HM2.out.1
            have hh : holdB F (p + m.d) m.d = true := by simp [holdB]; omega
            go_wp2_with fail
            refine (to_after (hold_any F _ _ _)).mono ?_
            rintro e w' ⟨y1, rfl, rfl⟩
            rw [hh]
            clear hh
            by_cases hbal : 0 ≤ m.balise ∧ m.balise ≤ 1000000
            · obtain ⟨l1, l2⟩ := hbal
              obtain ⟨g0, g1, g2, g3, g4, g5⟩ := fix_step (v := m.d) hc hr l1 l2 (show 0 ≤ p + m.d by omega) (by omega) n1 n2 n3
              obtain ⟨G, hG⟩ : ∃ G, G = fixV T.cons T.rate F (p + m.d - m.balise) m.balise := ⟨_, rfl⟩
              rw [← hG] at g1 g2 g3 g4 g5
              have HGG := Lib.hid hG
              have HG0 := Lib.hid g0
              have gs : (G.speed != F.speed) = false := by simp [g3]
              have gh : holdB G (p + m.d) m.d = true := by simp [holdB]; omega
              clear hG g0 g3
              go_wp2_with fail
              refine (in_after y1 (fix_any T F _ _ _ hc hr)).mono ?_
              rintro e w' ⟨y2, rfl, rfl⟩
              rw [← HGG.out, HG0.out]
              have z3 : w.heap.size < y2.val.heap.size := by have := y2.is.size; omega
              have z4 : x.val.heap.size < y2.val.heap.size := by have := y2.is.size; omega
              have z5 : wr.heap.size < y2.val.heap.size := by have := y2.is.size; omega
              go_wp2_with fail
              refine (to_after (hold_any G _ _ _)).mono ?_
              rintro e w' ⟨y3, rfl, rfl⟩
              rw [gh]
              have z6 : y2.val.heap.size < y3.val.heap.size := by have := y3.is.size; simp at this; omega
              have z7 : w.heap.size < y3.val.heap.size := by omega
              have z8 : x.val.heap.size < y3.val.heap.size := by omega
              have hE3 : Own y3.val x.val.heap.size [.int .i64 F.min, .int .i64 F.max, .int .i64 F.speed] := (((HO2.out.keep y2.is).alloc _).keep y3.is)
              have hT3 := ((HT2.out.keep y2.is).alloc (.cells #[.int .i64 G.min, .int .i64 G.max, .int .i64 G.speed] 32)).keep y3.is
              have hB3 := ((HB2.out.trans (y2.is.mono HB2.out.size)).alloc (HB2.out.trans (y2.is.mono HB2.out.size)).size (.cells #[.int .i64 G.min, .int .i64 G.max, .int .i64 G.speed] 32)).trans (y3.is.mono (by simp; omega))
              obtain ⟨w4, hw4, o4, on4⟩ := set3 (.int .i64 G.min) (.int .i64 G.max) (.int .i64 G.speed) hE3 rfl
              have HT4 := Lib.hid (hT3.only on4 (by omega))
              have HB4 := Lib.hid (Below.only hB3 on4 (by omega))
              have HO4 := Lib.hid o4
              have HW4 := Lib.hid hw4
              have yfz := hE3.2.2
              clear hE3 hT3 hB3 hw4 o4 on4
              go_upto_region 19 with (fail)
              rw [← HW4.out]
              go_wp2
              go_roundg (xs.length - (k + 1))
              case measure => have := HG.out; omega
              case rel => exact ⟨k + 1, p + m.d, G, by go_num, by omega, rfl, rfl, by omega, by omega, HB4.out, HT4.out, HO4.out, g1, g2, by omega, by omega⟩
            · have hb' : decide (0 ≤ m.balise) = false ∨ (0 ≤ m.balise ∧ decide (m.balise ≤ 1000000) = false) := by simp; omega
              clear hbal
              rcases hb' with hb' | ⟨hb', hb2⟩
              all_goals go_wp2
              all_goals go_roundg (xs.length - (k + 1))
              all_goals first | (case measure => have := HG.out; omega) | skip
              all_goals exact ⟨k + 1, p + m.d, F, by go_num, by omega, rfl, rfl, by omega, by omega, HB2.out.trans (y1.is.mono HB2.out.size), HT2.out.keep y1.is, HO2.out.keep y1.is, n1, n2, n4, n5⟩
          · have hd' : m.d < 0 ∨ (decide (m.d < 0) = false ∧ 1000000 < m.d) := by simp; omega
            clear hd hbw ht hE e1 e2 e3 e4
            rcases hd' with h1 | ⟨h1, h2⟩
            all_goals go_wp2_with (go_at_call 11; refine (to_after (alive_any _)).mono ?_; rintro e w' ⟨v, rfl, rfl⟩)
            all_goals go_ret
            all_goals exact ⟨rfl, (H.out.1.alloc H.out.1.size _).trans (v.is.mono (by have := H.out.1.size; simp; omega))⟩
        · go_wp2_with (go_at_call 11; refine (to_after (alive_any _)).mono ?_; rintro e w' ⟨v, rfl, rfl⟩)
          go_ret
          exact ⟨rfl, H.out.1.trans (v.is.mono H.out.1.size)⟩
    · have hl' : decide (60 < xs.length) = true := by simpa using hl
      go_enter Try.func7, Try.ntmps7
      go_wp2_with (first
        | (go_at_call 8; refine (to_after (rcheck_any T _ hs)).mono ?_; rintro e w' ⟨x, rfl, rfl⟩)
        | (go_at_call 11; refine (in_after x (alive_any _)).mono ?_; rintro e w' ⟨v, rfl, rfl⟩))
      go_ret
      exact ⟨rfl, ((Below.refl _ _).alloc (Nat.le_refl _) _).trans (v.is.mono (by simp))⟩
  · have hk' : (chkE T != 0) = true := by simp [hk]
    clear hk
    go_enter Try.func7, Try.ntmps7
    go_wp2_with (first
      | (go_at_call 8; refine (to_after (rcheck_any T _ hs)).mono ?_; rintro e w' ⟨x, rfl, rfl⟩)
      | (go_at_call 11; refine (in_after x (alive_any _)).mono ?_; rintro e w' ⟨v, rfl, rfl⟩))
    go_ret
    exact ⟨rfl, ((Below.refl _ _).alloc (Nat.le_refl _) _).trans (v.is.mono (by simp))⟩
end Go.Proofs.Ytehpeihnaaiknaa
