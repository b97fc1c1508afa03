/- Walks: units of the chapter; valid links and authorities. -/
import Derived.Test.YtbgmknkmfhpgeaaDoorWCabC
import Derived.Test.YtbgmknkmfhpgeaaDoorWTrain
import Derived.Deep.Cut
set_option linter.unusedVariables false
set_option linter.unusedSimpArgs false
set_option maxRecDepth 100000
namespace Go.Proofs.YtbgmknkmfhpgeaaDoor
open Go.ChangeShapes Go.WideShapes Go.ChangeAt Go.RowKit
open Sg
/-- A bool is returned; where it is true, P holds. -/
def RetP (w0 : World) (P : Prop) (e : Ending) (w' : World) : Prop := ∃ b : Bool, e = .returned (.bool b) ∧ (b = true → P) ∧ Below w0.heap.size w0 w'
theorem RetP.no {w0 w' : World} {P : Prop} (h : Ext w0 w') : RetP w0 P (.returned (.bool false)) w' := ⟨false, rfl, (fun q => by cases q), h⟩
def okC (x : Int) : Bool := decide (-1073741824 ≤ x) && decide (x ≤ 1073741824)
theorem okC_iff {x : Int} : okC x = true ↔ -1073741824 ≤ x ∧ x ≤ 1073741824 := by simp [okC]
theorem rdi_of {w : World} {b : Nat} {xs : List Int} (h : CellsAt w b (xs.map (Value.int .i64))) : RdI w (some ⟨b, 0, none⟩) xs := fun _ =>
  ⟨b, 0, rfl, h.1, fun k hk => by
    rw [Nat.zero_add]
    refine h.2 k _ ?_
    rw [List.getElem?_map, List.getElem?_eq_getElem hk]
    simp [List.getD_eq_getElem?_getD, hk]⟩
theorem okC_key {x : Int} (h : okC x = false) : decide (x < -1073741824) = true ∨ (decide (x < -1073741824) = false ∧ decide (1073741824 < x) = true) := by
  have h' : ¬ (-1073741824 ≤ x ∧ x ≤ 1073741824) := by rw [← okC_iff, h]; simp
  by_cases h1 : x < -1073741824
  · exact .inl (decide_eq_true h1)
  · exact .inr ⟨decide_eq_false h1, decide_eq_true (by omega)⟩
theorem okC_yes {x : Int} (h : okC x = true) : decide (x < -1073741824) = false ∧ decide (1073741824 < x) = false := by
  rw [okC_iff] at h
  exact ⟨decide_eq_false (by omega), decide_eq_false (by omega)⟩
def fitX (c : Cb) : List Int := [c.E.min, c.E.max, c.en]
theorem fits_ok {c : Cb} (h : ∀ (k : Nat) x, (fitX c)[k]? = some x → okC x = true) (h2 : ∀ (i : Nat) x, c.k[i]? = some x → okC x.at_ = true) (h3 : chkE c.T = 0) (h4 : 0 ≤ c.E.speed) (h5 : c.E.speed ≤ 1073741824) : CbOk c :=
  ⟨chkE_ok h3, okC_iff.1 (h 0 _ rfl), okC_iff.1 (h 1 _ rfl), ⟨h4, h5⟩, okC_iff.1 (h 2 _ rfl), fun i x hx => okC_iff.1 (h2 i x hx)⟩
set_option maxHeartbeats 8000000 in
theorem cfits_any (c : Cb) (A L : Option Addr) (ca cl : Nat) (w : World) (hs : c.T.name.size ≤ maxLen) (hk : c.k.length ≤ maxLen) (hr2 : Rd w L 2 Lkc c.k) :
    Calls Tryd.prog 31 #[.agg #[.int .i64 c.T.id, .string c.T.name, .int .i64 c.T.len, .int .i64 c.T.speed, .int .i64 c.T.accel, .int .i64 c.T.service, .int .i64 c.T.emergency, .int .i64 c.T.delay, .int .i64 c.T.cons, .int .i64 c.T.rate, .int .i64 c.mode, .int .i64 c.brake, .int .i64 c.next, .int .i64 c.E.min, .int .i64 c.E.max, .int .i64 c.E.speed, .int .i64 c.seq, .int .i64 c.en, .slice A c.p.length ca, .slice L c.k.length cl, .int .i64 c.peer, .int .i64 c.out, .int .i64 c.inn, .int .i64 c.heard, .bool c.known, .int .i64 c.since]] w fun e w' => RetP w (CbOk c) e w' := by
  have HK := Lib.hid hr2
  unfold maxLen at hk
  clear hr2
  obtain ⟨w1, hw⟩ : ∃ w1, w1 = (w.alloc (.cells #[.int .i64 c.T.id, .string c.T.name, .int .i64 c.T.len, .int .i64 c.T.speed, .int .i64 c.T.accel, .int .i64 c.T.service, .int .i64 c.T.emergency, .int .i64 c.T.delay, .int .i64 c.T.cons, .int .i64 c.T.rate, .int .i64 c.mode, .int .i64 c.brake, .int .i64 c.next, .int .i64 c.E.min, .int .i64 c.E.max, .int .i64 c.E.speed, .int .i64 c.seq, .int .i64 c.en, .slice A c.p.length ca, .slice L c.k.length cl, .int .i64 c.peer, .int .i64 c.out, .int .i64 c.inn, .int .i64 c.heard, .bool c.known, .int .i64 c.since] 35)) := ⟨_, rfl⟩
  have HE0 : Hid (Ext w w1) := by rw [hw]; exact eal (Ext.refl w) _
  have HB : Hid (Own w1 (w.heap.size) [.int .i64 c.T.id, .string c.T.name, .int .i64 c.T.len, .int .i64 c.T.speed, .int .i64 c.T.accel, .int .i64 c.T.service, .int .i64 c.T.emergency, .int .i64 c.T.delay, .int .i64 c.T.cons, .int .i64 c.T.rate, .int .i64 c.mode, .int .i64 c.brake, .int .i64 c.next, .int .i64 c.E.min, .int .i64 c.E.max, .int .i64 c.E.speed, .int .i64 c.seq, .int .i64 c.en, .slice A c.p.length ca, .slice L c.k.length cl, .int .i64 c.peer, .int .i64 c.out, .int .i64 c.inn, .int .i64 c.heard, .bool c.known, .int .i64 c.since]) := by rw [hw]; exact Own.new (w := w) (cs := #[.int .i64 c.T.id, .string c.T.name, .int .i64 c.T.len, .int .i64 c.T.speed, .int .i64 c.T.accel, .int .i64 c.T.service, .int .i64 c.T.emergency, .int .i64 c.T.delay, .int .i64 c.T.cons, .int .i64 c.T.rate, .int .i64 c.mode, .int .i64 c.brake, .int .i64 c.next, .int .i64 c.E.min, .int .i64 c.E.max, .int .i64 c.E.speed, .int .i64 c.seq, .int .i64 c.en, .slice A c.p.length ca, .slice L c.k.length cl, .int .i64 c.peer, .int .i64 c.out, .int .i64 c.inn, .int .i64 c.heard, .bool c.known, .int .i64 c.since]) (t := 35) (by simp)
  go_enter Tryd.func31, Tryd.ntmps31
  go_upto_region 1 with (fail)
  rw [← hw]
  clear hw
  have a13 := HB.out.cells.2 13 _ rfl
  have a14 := HB.out.cells.2 14 _ rfl
  have a17 := HB.out.cells.2 17 _ rfl
  have az := HB.out.cells.1
  have HX := Lib.hid (rdi_of (w := w1.alloc (.cells #[.int .i64 c.E.min, .int .i64 c.E.max, .int .i64 c.en] 3)) (b := w1.heap.size) (xs := fitX c) (CellsAt.new rfl))
  have HX1 := Lib.hid (eal (Ext.refl w1) (.cells #[.int .i64 c.E.min, .int .i64 c.E.max, .int .i64 c.en] 3))
  go_wp2_with fail
  obtain ⟨w2, hw2⟩ : ∃ w2, w2 = w1.alloc (.cells #[.int .i64 c.E.min, .int .i64 c.E.max, .int .i64 c.en] 3) := ⟨_, rfl⟩
  rw [← hw2] at HX HX1 ⊢
  clear hw2 a13 a14 a17 az
  have HB2 := Lib.hid (HB.out.keep HX1.out)
  have HE2 := Lib.hid (etr HE0.out HX1.out)
  go_loopg [18] 3 (fun g i wr => ∃ j : Nat, i = .int .i64 j ∧ j ≤ 3 ∧ g = 3 - j ∧ Hid (Ext w2 wr ∧ ∀ (i : Nat) x, i < j → (fitX c)[i]? = some x → okC x = true))
  case atStart => exact ⟨0, rfl, by omega, rfl, Ext.refl _, fun i x h => absurd h (by omega)⟩
  case round =>
    obtain ⟨j, rfl, hj, hg, H⟩ := hrel
    have HG := Lib.hid hg
    clear hg
    by_cases hlt : j < 3
    · obtain ⟨b, off, hA, hb, hc⟩ := (HX.out.below H.out.1 (Nat.le_refl _)) (by simp [fitX])
      simp only [Option.some.injEq, Addr.mk.injEq] at hA
      obtain ⟨rfl, rfl, -⟩ := hA
      have c0 := hc j (by simpa [fitX] using hlt)
      obtain ⟨x, hx⟩ : ∃ x, (fitX c)[j]? = some x := ⟨_, List.getElem?_eq_getElem (by simpa [fitX] using hlt)⟩
      have e : (fitX c).getD j 0 = x := by rw [List.getD_eq_getElem?_getD, hx]; rfl
      rw [e, Nat.zero_add] at c0
      clear hc e
      cases hok : okC x
      · have key := okC_key hok
        clear hx hok
        rcases key with q1 | ⟨q1, q2⟩
        all_goals
          go_wp2
          go_ret
          exact RetP.no (etr HE2.out H.out.1)
      · have HN : Hid (∀ (i : Nat) x, i < j + 1 → (fitX c)[i]? = some x → okC x = true) := fun i y hi hy => by
          by_cases e : i = j
          · subst e; rw [hx] at hy; cases hy; exact hok
          · exact H.out.2 i y (by omega) hy
        obtain ⟨q1, q2⟩ := okC_yes hok
        clear hx hok
        go_wp2
        go_roundg (3 - (j + 1))
        case measure => have := HG.out; omega
        case rel => exact ⟨j + 1, by go_num, by omega, rfl, H.out.1, HN.out⟩
    · have HE3 := Lib.hid (etr HE2.out H.out.1)
      have HB2b := Lib.hid (HB2.out.keep H.out.1)
      have HN3 : Hid (∀ (k : Nat) x, (fitX c)[k]? = some x → okC x = true) := fun k x hk => H.out.2 k x (by have := (List.getElem?_eq_some_iff.1 hk).1; simp [fitX] at this; omega) hk
      have a19 := HB2b.out.cells.2 19 _ rfl
      have az := HB2b.out.cells.1
      go_wp2_with fail
      clear a19 az
      go_loopg [33] c.k.length (fun g i wr => ∃ j : Nat, i = .int .i64 j ∧ j ≤ c.k.length ∧ g = c.k.length - j ∧ Hid (Ext w wr ∧ Own wr w.heap.size [.int .i64 c.T.id, .string c.T.name, .int .i64 c.T.len, .int .i64 c.T.speed, .int .i64 c.T.accel, .int .i64 c.T.service, .int .i64 c.T.emergency, .int .i64 c.T.delay, .int .i64 c.T.cons, .int .i64 c.T.rate, .int .i64 c.mode, .int .i64 c.brake, .int .i64 c.next, .int .i64 c.E.min, .int .i64 c.E.max, .int .i64 c.E.speed, .int .i64 c.seq, .int .i64 c.en, .slice A c.p.length ca, .slice L c.k.length cl, .int .i64 c.peer, .int .i64 c.out, .int .i64 c.inn, .int .i64 c.heard, .bool c.known, .int .i64 c.since] ∧ ∀ (i : Nat) x, i < j → c.k[i]? = some x → okC x.at_ = true))
      case atStart => exact ⟨0, rfl, by omega, rfl, HE3.out, HB2b.out, fun i x h => absurd h (by omega)⟩
      case round =>
        obtain ⟨j, rfl, hj, hg, H2⟩ := hrel
        have HG2 := Lib.hid hg
        clear hg
        by_cases hlt2 : j < c.k.length
        · obtain ⟨b, off, s, rfl, hs2, hbs, c0, c1⟩ := rd_lnk HK.out H2.out.1 hlt2
          cases hok : okC s.at_
          · have key := okC_key hok
            clear hs2 hok
            rcases key with q1 | ⟨q1, q2⟩
            all_goals
              go_wp2
              go_ret
              exact RetP.no (etr H2.out.1 (eal (Ext.refl _) _))
          · have HN : Hid (∀ (i : Nat) x, i < j + 1 → c.k[i]? = some x → okC x.at_ = true) := fun i y hi hy => by
              by_cases e : i = j
              · subst e; rw [hs2] at hy; cases hy; exact hok
              · exact H2.out.2.2 i y (by omega) hy
            obtain ⟨q1, q2⟩ := okC_yes hok
            clear hs2 hok
            go_wp2
            go_roundg (c.k.length - (j + 1))
            case measure => have := HG2.out; omega
            case rel => exact ⟨j + 1, by go_num, by omega, rfl, etr H2.out.1 (eal (Ext.refl _) _), H2.out.2.1.keep (eal (Ext.refl _) _), HN.out⟩
        · have HN4 : Hid (∀ (i : Nat) x, c.k[i]? = some x → okC x.at_ = true) := fun i x hk => H2.out.2.2 i x (by have := (List.getElem?_eq_some_iff.1 hk).1; omega) hk
          have HB3 := Lib.hid H2.out.2.1
          have a0 := HB3.out.cells.2 0 _ rfl
          have a1 := HB3.out.cells.2 1 _ rfl
          have a2 := HB3.out.cells.2 2 _ rfl
          have a3 := HB3.out.cells.2 3 _ rfl
          have a4 := HB3.out.cells.2 4 _ rfl
          have a5 := HB3.out.cells.2 5 _ rfl
          have a6 := HB3.out.cells.2 6 _ rfl
          have a7 := HB3.out.cells.2 7 _ rfl
          have a8 := HB3.out.cells.2 8 _ rfl
          have a9 := HB3.out.cells.2 9 _ rfl
          have a15 := HB3.out.cells.2 15 _ rfl
          have az := HB3.out.cells.1
          go_wp2_with fail
          refine (rcheck_any c.T _ hs).mono ?_
          rintro e w4 ⟨rfl, hb⟩
          clear a0 a1 a2 a3 a4 a5 a6 a7 a8 a9 a15 az
          have HB4 := Lib.hid (HB3.out.keep hb)
          have HX4 := Lib.hid (etr H2.out.1 hb)
          clear hb
          have a15 := HB4.out.cells.2 15 _ rfl
          have az := HB4.out.cells.1
          cases q1 : (chkE c.T == 0)
          · go_wp2
            go_ret
            exact RetP.no HX4.out
          · cases q2 : decide (0 ≤ c.E.speed)
            · go_wp2
              go_ret
              exact RetP.no HX4.out
            · have HQ : Hid (decide (c.E.speed ≤ 1073741824) = true → CbOk c) := fun q3 => fits_ok HN3.out HN4.out (by simpa using q1) (of_decide_eq_true q2) (of_decide_eq_true q3)
              go_wp2
              go_ret
              exact ⟨_, rfl, HQ.out, HX4.out⟩
set_option maxHeartbeats 4000000 in
theorem few_any (c : Cb) (A L : Option Addr) (ca cl : Nat) (w : World) (hs : c.T.name.size ≤ maxLen) (hk : c.k.length ≤ maxLen) (hr2 : Rd w L 2 Lkc c.k) :
    Calls Tryd.prog 10 #[.agg #[.int .i64 c.T.id, .string c.T.name, .int .i64 c.T.len, .int .i64 c.T.speed, .int .i64 c.T.accel, .int .i64 c.T.service, .int .i64 c.T.emergency, .int .i64 c.T.delay, .int .i64 c.T.cons, .int .i64 c.T.rate, .int .i64 c.mode, .int .i64 c.brake, .int .i64 c.next, .int .i64 c.E.min, .int .i64 c.E.max, .int .i64 c.E.speed, .int .i64 c.seq, .int .i64 c.en, .slice A c.p.length ca, .slice L c.k.length cl, .int .i64 c.peer, .int .i64 c.out, .int .i64 c.inn, .int .i64 c.heard, .bool c.known, .int .i64 c.since]] w fun e w' => RetP w (CbOk c ∧ c.p.length ≤ 300 ∧ c.k.length ≤ 60) e w' := by
  obtain ⟨w1, hw⟩ : ∃ w1, w1 = (w.alloc (.cells #[.int .i64 c.T.id, .string c.T.name, .int .i64 c.T.len, .int .i64 c.T.speed, .int .i64 c.T.accel, .int .i64 c.T.service, .int .i64 c.T.emergency, .int .i64 c.T.delay, .int .i64 c.T.cons, .int .i64 c.T.rate, .int .i64 c.mode, .int .i64 c.brake, .int .i64 c.next, .int .i64 c.E.min, .int .i64 c.E.max, .int .i64 c.E.speed, .int .i64 c.seq, .int .i64 c.en, .slice A c.p.length ca, .slice L c.k.length cl, .int .i64 c.peer, .int .i64 c.out, .int .i64 c.inn, .int .i64 c.heard, .bool c.known, .int .i64 c.since] 35)) := ⟨_, rfl⟩
  have HE0 : Hid (Ext w w1) := by rw [hw]; exact eal (Ext.refl w) _
  have HB : Hid (Own w1 (w.heap.size) [.int .i64 c.T.id, .string c.T.name, .int .i64 c.T.len, .int .i64 c.T.speed, .int .i64 c.T.accel, .int .i64 c.T.service, .int .i64 c.T.emergency, .int .i64 c.T.delay, .int .i64 c.T.cons, .int .i64 c.T.rate, .int .i64 c.mode, .int .i64 c.brake, .int .i64 c.next, .int .i64 c.E.min, .int .i64 c.E.max, .int .i64 c.E.speed, .int .i64 c.seq, .int .i64 c.en, .slice A c.p.length ca, .slice L c.k.length cl, .int .i64 c.peer, .int .i64 c.out, .int .i64 c.inn, .int .i64 c.heard, .bool c.known, .int .i64 c.since]) := by rw [hw]; exact Own.new (w := w) (cs := #[.int .i64 c.T.id, .string c.T.name, .int .i64 c.T.len, .int .i64 c.T.speed, .int .i64 c.T.accel, .int .i64 c.T.service, .int .i64 c.T.emergency, .int .i64 c.T.delay, .int .i64 c.T.cons, .int .i64 c.T.rate, .int .i64 c.mode, .int .i64 c.brake, .int .i64 c.next, .int .i64 c.E.min, .int .i64 c.E.max, .int .i64 c.E.speed, .int .i64 c.seq, .int .i64 c.en, .slice A c.p.length ca, .slice L c.k.length cl, .int .i64 c.peer, .int .i64 c.out, .int .i64 c.inn, .int .i64 c.heard, .bool c.known, .int .i64 c.since]) (t := 35) (by simp)
  have HFC : Hid (Calls Tryd.prog 31 #[.agg #[.int .i64 c.T.id, .string c.T.name, .int .i64 c.T.len, .int .i64 c.T.speed, .int .i64 c.T.accel, .int .i64 c.T.service, .int .i64 c.T.emergency, .int .i64 c.T.delay, .int .i64 c.T.cons, .int .i64 c.T.rate, .int .i64 c.mode, .int .i64 c.brake, .int .i64 c.next, .int .i64 c.E.min, .int .i64 c.E.max, .int .i64 c.E.speed, .int .i64 c.seq, .int .i64 c.en, .slice A c.p.length ca, .slice L c.k.length cl, .int .i64 c.peer, .int .i64 c.out, .int .i64 c.inn, .int .i64 c.heard, .bool c.known, .int .i64 c.since]] w1 fun e w' => RetP w1 (CbOk c) e w') := cfits_any c A L ca cl w1 hs hk (hr2.keep HE0.out)
  go_enter Tryd.func10, Tryd.ntmps10
  go_upto_region 1 with (fail)
  rw [← hw]
  clear hw hs hk hr2
  go_wp2_with (first | (refine wp_ldN 35 [.int .i64 c.T.id, .string c.T.name, .int .i64 c.T.len, .int .i64 c.T.speed, .int .i64 c.T.accel, .int .i64 c.T.service, .int .i64 c.T.emergency, .int .i64 c.T.delay, .int .i64 c.T.cons, .int .i64 c.T.rate, .int .i64 c.mode, .int .i64 c.brake, .int .i64 c.next, .int .i64 c.E.min, .int .i64 c.E.max, .int .i64 c.E.speed, .int .i64 c.seq, .int .i64 c.en, .slice A c.p.length ca, .slice L c.k.length cl, .int .i64 c.peer, .int .i64 c.out, .int .i64 c.inn, .int .i64 c.heard, .bool c.known, .int .i64 c.since] rfl rfl rfl (HB.out).cells Tryd.underlying35 szCab rfl ?_))
  refine HFC.out.mono ?_
  rintro e w2 ⟨b, rfl, hP, hb⟩
  have HQ := Lib.hid hP
  have HX2 := Lib.hid (etr HE0.out hb)
  have HB2 := Lib.hid (HB.out.keep hb)
  clear hP hb
  have a18 := HB2.out.cells.2 18 _ rfl
  have a19 := HB2.out.cells.2 19 _ rfl
  have az := HB2.out.cells.1
  cases b
  · go_wp2
    go_ret
    exact RetP.no HX2.out
  · cases q1 : decide ((c.p.length : Int) ≤ 300)
    · go_wp2
      go_ret
      exact RetP.no HX2.out
    · have HQ2 : Hid (decide ((c.k.length : Int) ≤ 60) = true → CbOk c ∧ c.p.length ≤ 300 ∧ c.k.length ≤ 60) := fun q2 => ⟨HQ.out rfl, by have := of_decide_eq_true q1; omega, by have := of_decide_eq_true q2; omega⟩
      go_wp2
      go_ret
      exact ⟨_, rfl, HQ2.out, HX2.out⟩
end Go.Proofs.YtbgmknkmfhpgeaaDoor
