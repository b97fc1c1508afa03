/- Walks: the reference's insertion of linked balises. Printed by gen_rf5.py. -/
import Derived.Test.YticonpjkcocgeaaDoorPRf5
import Derived.Test.YticonpjkcocgeaaDoorWReaA
set_option linter.unusedVariables false
set_option linter.unusedSimpArgs false
set_option maxRecDepth 100000
namespace Go.Proofs.YticonpjkcocgeaaDoor
open Go.ChangeShapes Go.WideShapes Go.ChangeAt Go.RowKit
open Sg

theorem inf_LkP : (Tryd.prog.info? 106).map (fun i => (i.zero, i.size, i.bytes)) = some (some (.agg #[.int .i64 0, .int .i64 0]), 2, 16) := by kernel_rfl
/-- A linked balise's cells: its number, its place. -/
def Qc (s : Pas) : List Value := [.int .i64 s.id, .int .i64 s.place]
theorem Qc_len (s : Pas) : (Qc s).length = 2 := rfl
theorem Qc_one (s : Pas) : ∀ u ∈ Qc s, u.oneCell' = true := by intro u hu; simp [Qc] at hu; rcases hu with rfl | rfl <;> rfl
theorem rd_qas {w wr : World} {A : Option Addr} {p : List Pas} {k : Nat} (h : Rd w A 2 Qc p) (hb : Ext w wr) (hk : k < p.length) :
    ∃ b off s, A = some ⟨b, off, none⟩ ∧ p[k]? = some s ∧ b < wr.heap.size ∧ wr.cell? ⟨b, off + k * 2, none⟩ = some (.int .i64 s.id) ∧ wr.cell? ⟨b, off + k * 2 + 1, none⟩ = some (.int .i64 s.place) := by
  obtain ⟨b, off, rfl, h1, h2⟩ := h.keep hb (by omega)
  obtain ⟨s, hs⟩ : ∃ s, p[k]? = some s := ⟨_, List.getElem?_eq_getElem hk⟩
  exact ⟨b, off, s, rfl, hs, h1, h2 k s hs 0 _ rfl, h2 k s hs 1 _ rfl⟩
/-- A list of linked balises is returned. -/
def LksRet (w : World) (R : List Pas) (e : Ending) (w' : World) : Prop := ∃ A c, e = .returned (.slice A R.length c) ∧ Rd w' A 2 Qc R ∧ Below w.heap.size w w'
theorem ins_drop {l : List Pas} {k : Nat} {y x : Pas} (h : l[k]? = some y) : insP x (l.drop k) = if befP x y = true then x :: y :: l.drop (k + 1) else y :: insP x (l.drop (k + 1)) := by
  obtain ⟨hl, rfl⟩ := List.getElem?_eq_some_iff.1 h
  rw [List.drop_eq_getElem_cons hl, insP]
theorem drop_at {l : List Pas} {k : Nat} {y : Pas} (h : l[k]? = some y) : l.drop k = y :: l.drop (k + 1) := by
  obtain ⟨hl, rfl⟩ := List.getElem?_eq_some_iff.1 h
  exact List.drop_eq_getElem_cons hl
section
set_option maxHeartbeats 16000000
theorem rpasses_any (els : List Elm) (s : Stp) (w : World) (h1 : 0 ≤ s.in_ ∧ s.in_ ≤ 3) (h2 : 0 ≤ s.out_ ∧ s.out_ ≤ 3) (kd : Int) (hk : kd = (elAt els s.el).kind) : Calls Tryd.prog 80 #[.int .i64 kd, .agg #[.int .i64 s.el, .int .i64 s.in_, .int .i64 s.out_]] w fun e w' => e = .returned (.bool (rpasB els s)) ∧ Below w.heap.size w w' := by
  have HV : Hid (rpasB els s = ((kd == 1) || (s.in_ + s.out_ == 1))) := by show _ = _; unfold rpasB; rw [← hk]
  have n1 : IntKind.i64.wrap (s.in_ + s.out_) = s.in_ + s.out_ := IntWalk.i64_in _ (by omega)
  clear hk h1 h2
  cases q1 : (kd == 1)
  · cases q2 : (s.in_ + s.out_ == 1)
    all_goals
      have HR : Hid (rpasB els s = _) := HV.out.trans (by rw [q1, q2])
      clear HV
      go_enter Tryd.func80, Tryd.ntmps80
      go_wp2
      go_ret
      exact ⟨by rw [HR.out]; rfl, eal (Ext.refl _) _⟩
  · have HR : Hid (rpasB els s = true) := HV.out.trans (by rw [q1]; rfl)
    clear HV
    go_enter Tryd.func80, Tryd.ntmps80
    go_wp2
    go_ret
    exact ⟨by rw [HR.out]; rfl, eal (Ext.refl _) _⟩
theorem rplace_any (els : List Elm) (s : Stp) (y : Elm) (x : Bls) (w : World) (hy : lenOf els s = y.len) (hb : 0 ≤ y.len ∧ y.len ≤ 1000000) (hx : 0 ≤ x.off ∧ x.off ≤ 1000000) : Calls Tryd.prog 79 #[.agg #[.string y.name, .int .i64 y.kind, .int .i64 y.len, .int .i64 y.grade, .int .i64 y.speed, .int .i64 y.slow, .int .i64 y.sec], .agg #[.int .i64 s.el, .int .i64 s.in_, .int .i64 s.out_], .agg #[.int .i64 x.id, .int .i64 x.el, .int .i64 x.off]] w fun e w' => e = .returned (.int .i64 (rplc els s x)) ∧ Below w.heap.size w w' := by
  have n1 : IntKind.i64.wrap (y.len - x.off) = y.len - x.off := IntWalk.i64_in _ (by omega)
  by_cases h : s.in_ = 1
  · have q1 : (s.in_ == 1) = true := by simpa using h
    have HR : Hid (rplc els s x = y.len - x.off) := by show _ = _; unfold rplc; rw [if_pos h, hy]
    clear h hy
    go_enter Tryd.func79, Tryd.ntmps79
    go_wp2
    go_ret
    exact ⟨by rw [HR.out]; rfl, eal (eal (eal (Ext.refl _) _) _) _⟩
  · have q1 : (s.in_ == 1) = false := by simpa using h
    have HR : Hid (rplc els s x = x.off) := by show _ = _; unfold rplc; rw [if_neg h]
    clear h hy
    go_enter Tryd.func79, Tryd.ntmps79
    go_wp2
    go_ret
    exact ⟨by rw [HR.out]; rfl, eal (eal (eal (Ext.refl _) _) _) _⟩
theorem rbefore_any (x y : Pas) (w : World) : Calls Tryd.prog 102 #[.agg #[.int .i64 x.id, .int .i64 x.place], .agg #[.int .i64 y.id, .int .i64 y.place]] w fun e w' => e = .returned (.bool (befP x y)) ∧ Below w.heap.size w w' := by
  have HV : Hid (befP x y = (decide (x.place < y.place) || ((x.place == y.place) && decide (x.id < y.id)))) := rfl
  cases q1 : decide (x.place < y.place)
  · cases q2 : (x.place == y.place)
    · have HR : Hid (befP x y = false) := HV.out.trans (by rw [q1, q2]; rfl)
      clear HV
      go_enter Tryd.func102, Tryd.ntmps102
      go_wp2
      go_ret
      exact ⟨by rw [HR.out]; rfl, eal (eal (Ext.refl _) _) _⟩
    · cases q3 : decide (x.id < y.id)
      all_goals
        have HR : Hid (befP x y = _) := HV.out.trans (by rw [q1, q2, q3])
        clear HV
        go_enter Tryd.func102, Tryd.ntmps102
        go_wp2
        go_ret
        exact ⟨by rw [HR.out]; rfl, eal (eal (Ext.refl _) _) _⟩
  · have HR : Hid (befP x y = true) := HV.out.trans (by rw [q1]; rfl)
    clear HV
    go_enter Tryd.func102, Tryd.ntmps102
    go_wp2
    go_ret
    exact ⟨by rw [HR.out]; rfl, eal (eal (Ext.refl _) _) _⟩
theorem r32put_any (A : Option Addr) (l : List Pas) (c : Nat) (x : Pas) (w : World) (hr : Rd w A 2 Qc l) (hm : l.length ≤ 100000) :
    Calls Tryd.prog 81 #[.slice A l.length c, .agg #[.int .i64 x.id, .int .i64 x.place]] w (LksRet w (insP x l)) := by
  obtain ⟨i0, hi, hz0, hz1, hz2⟩ := info_parts inf_LkP
  have HI := Lib.hid hi
  have HR := Lib.hid hr
  obtain ⟨v, hv⟩ : ∃ v, v = w.alloc (.cells #[.int .i64 x.id, .int .i64 x.place] 106) := ⟨_, rfl⟩
  have E1 : Hid (Ext w v) := by rw [hv]; exact eal (Ext.refl _) _
  have B1 : Hid (CellsAt v w.heap.size (Qc x)) := by rw [hv]; exact CellsAt.new rfl
  clear hi hr
  go_enter Tryd.func81, Tryd.ntmps81
  go_upto_region 1 with (fail)
  rw [← hv]
  clear hv
  go_wp2
  go_loopg [5, 6, 7] l.length (fun g x5 x6 ix wr => ∃ (k : Nat) (d : Bool) (ys : List Pas), ix = .int .i64 k ∧ x6 = .bool d ∧ k ≤ l.length ∧ g = l.length - k ∧ Hid (Ext v wr) ∧ Hid (OwnL wr v.heap.size 106 2 Qc x5 ys) ∧ Hid (insP x l = ys ++ (if d = true then l.drop k else insP x (l.drop k))))
  case atStart => exact ⟨0, false, [], rfl, rfl, by omega, by omega, Ext.refl _, OwnL.nil, rfl⟩
  case round =>
    obtain ⟨k, d, ys, rfl, rfl, hk, hg, X, O, HY⟩ := hrel
    have HG := Lib.hid hg
    clear hg
    have B2 : Hid (CellsAt wr w.heap.size (Qc x)) := B1.out.keep X.out
    have p0 := B2.out.1
    have p1 := B2.out.2 0 _ rfl
    have p2 := B2.out.2 1 _ rfl
    have hyl : ys.length ≤ l.length + 1 := by
      have := congrArg List.length HY.out
      rw [insP_len, List.length_append] at this
      omega
    by_cases hlt : k < l.length
    · have q0 : decide ((k : Int) < (l.length : Int)) = true := decide_eq_true (by omega)
      have q5 : k + 1 ≤ l.length := by omega
      obtain ⟨b, off, y, rfl, hy, hbs, c0, c1⟩ := rd_qas HR.out (etr E1.out X.out) hlt
      have HD := drop_at hy
      have HN := ins_drop (x := x) hy
      have XA : Hid (Ext wr (wr.alloc (.cells #[.int .i64 y.id, .int .i64 y.place] 106))) := eal (Ext.refl _) _
      have CXA : Hid (CellsAt (wr.alloc (.cells #[.int .i64 y.id, .int .i64 y.place] 106)) wr.heap.size (Qc y)) := CellsAt.new rfl
      have hbs1 := lt_up2 hbs
      have HYY := Lib.hid hy
      clear hy
      cases d
      case true =>
        have HZ : Hid (insP x l = (ys ++ [y]) ++ (if true = true then l.drop (k + 1) else insP x (l.drop (k + 1)))) := by
          show _ = _
          have h := HY.out
          rw [if_pos rfl, HD] at h
          rw [if_pos rfl, h]; simp
        clear HD HN HY
        clear XA CXA
        have HRY : Hid (∀ wq, Ext v wq → wq.cell? ⟨b, off + k * 2, none⟩ = some (.int .i64 y.id) ∧ wq.cell? ⟨b, off + k * 2 + 1, none⟩ = some (.int .i64 y.place) ∧ b < wq.heap.size) := (fun wq h => by obtain ⟨b', off', y', hA, hy', h1, h2, h3⟩ := rd_qas HR.out (etr E1.out h) hlt; cases hA; rw [HYY.out] at hy'; cases hy'; exact ⟨h2, h3, h1⟩)
        go_upto_region 6 with (fail)
        refine wp_region_after (by kernel_rfl) (by kernel_rfl) ?_
        repeat (first | go_big_quiet_step ((fail)))
        refine wpQuiet_nil ?_
        rintro _ ⟨y5, rfl⟩
        have B3 : Hid (CellsAt y5.val w.heap.size (Qc x)) := B2.out.keep y5.is
        have r0 := B3.out.1
        have r1 := B3.out.2 0 _ rfl
        have r2 := B3.out.2 1 _ rfl
        have g := HRY.out _ (etr X.out y5.is)
        have c0' := g.1
        have c1' := g.2.1
        have hb6 := g.2.2
        have hb7 := lt_up2 hb6
        clear g c0 c1 hbs hbs1 p0 p1 p2
        have XA : Hid (Ext wr (y5.val.alloc (.cells #[.int .i64 y.id, .int .i64 y.place] 106))) := eal y5.is _
        have CXA : Hid (CellsAt (y5.val.alloc (.cells #[.int .i64 y.id, .int .i64 y.place] 106)) y5.val.heap.size (Qc y)) := CellsAt.new rfl
        go_wp2_with (at_builtin; refine wp_appE (u := v) Qc_len Qc_one Tryd.underlying39 HI.out hz0 hz1 hz2 rfl (by decide) rfl rfl rfl (O.out.keep XA.out) (etr X.out XA.out) y (y5.val.heap.size) (by simp [go_sem]) CXA.out (by omega) (by unfold maxLen; omega) ?_; intro v1 w6 H6; clear XA)
        go_roundg (l.length - (k + 1))
        case measure => have := HG.out; omega
        case rel => exact ⟨k + 1, true, _, by go_num, rfl, by omega, rfl, H6.out.2.1, H6.out.1, HZ.out⟩
      case false =>
        cases hb : befP x y
        · have HZ : Hid (insP x l = (ys ++ [y]) ++ (if false = true then l.drop (k + 1) else insP x (l.drop (k + 1)))) := by
            show _ = _
            have h := HY.out
            rw [if_neg (by simp), HN, hb, if_neg (by simp)] at h
            rw [if_neg (by simp), h]; simp
          clear HD HN HY
          have HBF : Hid (∀ w', Calls Tryd.prog 102 #[.agg #[.int .i64 x.id, .int .i64 x.place], .agg #[.int .i64 y.id, .int .i64 y.place]] w' fun e w2 => e = .returned (.bool false) ∧ Below w'.heap.size w' w2) := fun w' => by have := rbefore_any x y w'; rw [hb] at this; exact this
          clear hb
          clear XA CXA
          have HRY : Hid (∀ wq, Ext v wq → wq.cell? ⟨b, off + k * 2, none⟩ = some (.int .i64 y.id) ∧ wq.cell? ⟨b, off + k * 2 + 1, none⟩ = some (.int .i64 y.place) ∧ b < wq.heap.size) := (fun wq h => by obtain ⟨b', off', y', hA, hy', h1, h2, h3⟩ := rd_qas HR.out (etr E1.out h) hlt; cases hA; rw [HYY.out] at hy'; cases hy'; exact ⟨h2, h3, h1⟩)
          go_upto_region 6 with (fail)
          refine wp_region_after (by kernel_rfl) (by kernel_rfl) ?_
          repeat (first | go_big_quiet_step ((go_at_call 102; exact after_call _ (HBF.out _))))
          refine wpQuiet_nil ?_
          rintro _ ⟨y5, rfl⟩
          have B3 : Hid (CellsAt y5.val w.heap.size (Qc x)) := B2.out.keep y5.is
          have r0 := B3.out.1
          have r1 := B3.out.2 0 _ rfl
          have r2 := B3.out.2 1 _ rfl
          have g := HRY.out _ (etr X.out y5.is)
          have c0' := g.1
          have c1' := g.2.1
          have hb6 := g.2.2
          have hb7 := lt_up2 hb6
          clear g c0 c1 hbs hbs1 p0 p1 p2
          have XA : Hid (Ext wr (y5.val.alloc (.cells #[.int .i64 y.id, .int .i64 y.place] 106))) := eal y5.is _
          have CXA : Hid (CellsAt (y5.val.alloc (.cells #[.int .i64 y.id, .int .i64 y.place] 106)) y5.val.heap.size (Qc y)) := CellsAt.new rfl
          go_wp2_with (at_builtin; refine wp_appE (u := v) Qc_len Qc_one Tryd.underlying39 HI.out hz0 hz1 hz2 rfl (by decide) rfl rfl rfl (O.out.keep XA.out) (etr X.out XA.out) y (y5.val.heap.size) (by simp [go_sem]) CXA.out (by omega) (by unfold maxLen; omega) ?_; intro v1 w6 H6; clear XA)
          go_roundg (l.length - (k + 1))
          case measure => have := HG.out; omega
          case rel => exact ⟨k + 1, false, _, by go_num, rfl, by omega, rfl, H6.out.2.1, H6.out.1, HZ.out⟩
        · have HZ : Hid (insP x l = ((ys ++ [x]) ++ [y]) ++ (if true = true then l.drop (k + 1) else insP x (l.drop (k + 1)))) := by
            show _ = _
            have h := HY.out
            rw [if_neg (by simp), HN, hb, if_pos rfl] at h
            rw [if_pos rfl, h]; simp
          clear HD HN HY XA CXA
          have HBF : Hid (∀ w', Calls Tryd.prog 102 #[.agg #[.int .i64 x.id, .int .i64 x.place], .agg #[.int .i64 y.id, .int .i64 y.place]] w' fun e w2 => e = .returned (.bool true) ∧ Below w'.heap.size w' w2) := fun w' => by have := rbefore_any x y w'; rw [hb] at this; exact this
          clear hb
          have HRY : Hid (∀ wq, Ext v wq → wq.cell? ⟨b, off + k * 2, none⟩ = some (.int .i64 y.id) ∧ wq.cell? ⟨b, off + k * 2 + 1, none⟩ = some (.int .i64 y.place) ∧ b < wq.heap.size) := (fun wq h => by obtain ⟨b', off', y', hA, hy', h1, h2, h3⟩ := rd_qas HR.out (etr E1.out h) hlt; cases hA; rw [HYY.out] at hy'; cases hy'; exact ⟨h2, h3, h1⟩)
          go_upto_region 6 with (fail)
          refine wp_region_after (by kernel_rfl) (by kernel_rfl) ?_
          repeat (first | go_big_quiet_step ((go_at_call 102; exact after_call _ (HBF.out _))))
          refine wpQuiet_nil ?_
          rintro _ ⟨y5, rfl⟩
          have B3 : Hid (CellsAt y5.val w.heap.size (Qc x)) := B2.out.keep y5.is
          have r0 := B3.out.1
          have r1 := B3.out.2 0 _ rfl
          have r2 := B3.out.2 1 _ rfl
          have g := HRY.out _ (etr X.out y5.is)
          have c0' := g.1
          have c1' := g.2.1
          have hb6 := g.2.2
          have hb7 := lt_up2 hb6
          clear g c0 c1 hbs hbs1 p0 p1 p2
          have XA : Hid (Ext wr (y5.val.alloc (.cells #[.int .i64 x.id, .int .i64 x.place] 106))) := eal y5.is _
          have CXA : Hid (CellsAt (y5.val.alloc (.cells #[.int .i64 x.id, .int .i64 x.place] 106)) y5.val.heap.size (Qc x)) := CellsAt.new rfl
          go_upto_region 9 with (at_builtin; refine wp_appE (u := v) Qc_len Qc_one Tryd.underlying39 HI.out hz0 hz1 hz2 rfl (by decide) rfl rfl rfl (O.out.keep XA.out) (etr X.out XA.out) x (y5.val.heap.size) (by simp [go_sem]) CXA.out (by omega) (by unfold maxLen; omega) ?_; intro v1 w6 H6; clear XA)
          clear c0' c1' hb6 hb7
          have g := HRY.out w6 H6.out.2.1
          have c0' := g.1
          have c1' := g.2.1
          have hb6 := g.2.2
          have hb7 := lt_up2 hb6
          clear g
          have XB : Hid (Ext w6 (w6.alloc (.cells #[.int .i64 y.id, .int .i64 y.place] 106))) := eal (Ext.refl _) _
          have CXB : Hid (CellsAt (w6.alloc (.cells #[.int .i64 y.id, .int .i64 y.place] 106)) w6.heap.size (Qc y)) := CellsAt.new rfl
          have hyl2 : (ys ++ [x]).length ≤ l.length + 2 := by simp; omega
          go_wp2_with (at_builtin; refine wp_appE (u := v) Qc_len Qc_one Tryd.underlying39 HI.out hz0 hz1 hz2 rfl (by decide) rfl rfl rfl (H6.out.1.keep XB.out) (etr H6.out.2.1 XB.out) y (w6.heap.size) (by simp [go_sem]) CXB.out (by omega) (by unfold maxLen; omega) ?_; intro v2 w7 H7; clear XB)
          go_roundg (l.length - (k + 1))
          case measure => have := HG.out; omega
          case rel => exact ⟨k + 1, true, _, by go_num, rfl, by omega, rfl, H7.out.2.1, H7.out.1, HZ.out⟩
    · have q0 : decide ((k : Int) < (l.length : Int)) = false := decide_eq_false (by omega)
      have hd : l.drop k = [] := List.drop_eq_nil_of_le (by omega)
      cases d
      case true =>
        have HZ : Hid (ys = insP x l) := by
          show _ = _
          have h := HY.out
          rw [if_pos rfl, hd] at h
          rw [h]; simp
        clear HY hd
        obtain ⟨A7, c7, rfl, hr7, hm7⟩ := O.out.rd Qc_len
        have HRT : Hid (Ending.returned (.slice A7 ys.length c7) = .returned (.slice A7 (insP x l).length c7)) := by show _ = _; rw [HZ.out]
        have HR7 : Hid (Rd wr A7 2 Qc (insP x l)) := by rw [← HZ.out]; exact hr7
        clear hr7 hm7
        go_wp2
        go_ret
        exact ⟨A7, c7, HRT.out, HR7.out, etr E1.out X.out⟩
      case false =>
        have HZ : Hid (ys ++ [x] = insP x l) := by
          show _ = _
          have h := HY.out
          rw [if_neg (by simp), hd] at h
          rw [h]; simp [insP]
        clear HY hd
        have XA : Hid (Ext wr (wr.alloc (.cells #[.int .i64 x.id, .int .i64 x.place] 106))) := eal (Ext.refl _) _
        have CXA : Hid (CellsAt (wr.alloc (.cells #[.int .i64 x.id, .int .i64 x.place] 106)) wr.heap.size (Qc x)) := CellsAt.new rfl
        go_upto_region 12 with (at_builtin; refine wp_appE (u := v) Qc_len Qc_one Tryd.underlying39 HI.out hz0 hz1 hz2 rfl (by decide) rfl rfl rfl (O.out.keep XA.out) (etr X.out XA.out) x (wr.heap.size) (by simp [go_sem]) CXA.out (by omega) (by unfold maxLen; omega) ?_; intro v1 w6 H6; clear XA)
        obtain ⟨A7, c7, rfl, hr7, hm7⟩ := H6.out.1.rd Qc_len
        have HRT : Hid (Ending.returned (.slice A7 (ys ++ [x]).length c7) = .returned (.slice A7 (insP x l).length c7)) := by show _ = _; rw [HZ.out]
        have HR7 : Hid (Rd w6 A7 2 Qc (insP x l)) := by rw [← HZ.out]; exact hr7
        have X6 := Lib.hid H6.out.2.1
        clear hr7 hm7 H6
        go_wp2
        go_ret
        exact ⟨A7, c7, HRT.out, HR7.out, etr E1.out X6.out⟩
theorem r51put_any (A : Option Addr) (l : List Pas) (c : Nat) (x : Pas) (w : World) (hr : Rd w A 2 Qc l) (hm : l.length ≤ 100000) :
    Calls Tryd.prog 54 #[.slice A l.length c, .agg #[.int .i64 x.id, .int .i64 x.place]] w (LksRet w (insP x l)) := by
  obtain ⟨i0, hi, hz0, hz1, hz2⟩ := info_parts inf_LkP
  have HI := Lib.hid hi
  have HR := Lib.hid hr
  obtain ⟨v, hv⟩ : ∃ v, v = w.alloc (.cells #[.int .i64 x.id, .int .i64 x.place] 106) := ⟨_, rfl⟩
  have E1 : Hid (Ext w v) := by rw [hv]; exact eal (Ext.refl _) _
  have B1 : Hid (CellsAt v w.heap.size (Qc x)) := by rw [hv]; exact CellsAt.new rfl
  clear hi hr
  go_enter Tryd.func54, Tryd.ntmps54
  go_upto_region 1 with (fail)
  rw [← hv]
  clear hv
  go_wp2
  go_loopg [5, 6, 7] l.length (fun g x5 x6 ix wr => ∃ (k : Nat) (d : Bool) (ys : List Pas), ix = .int .i64 k ∧ x6 = .bool d ∧ k ≤ l.length ∧ g = l.length - k ∧ Hid (Ext v wr) ∧ Hid (OwnL wr v.heap.size 106 2 Qc x5 ys) ∧ Hid (insP x l = ys ++ (if d = true then l.drop k else insP x (l.drop k))))
  case atStart => exact ⟨0, false, [], rfl, rfl, by omega, by omega, Ext.refl _, OwnL.nil, rfl⟩
  case round =>
    obtain ⟨k, d, ys, rfl, rfl, hk, hg, X, O, HY⟩ := hrel
    have HG := Lib.hid hg
    clear hg
    have B2 : Hid (CellsAt wr w.heap.size (Qc x)) := B1.out.keep X.out
    have p0 := B2.out.1
    have p1 := B2.out.2 0 _ rfl
    have p2 := B2.out.2 1 _ rfl
    have hyl : ys.length ≤ l.length + 1 := by
      have := congrArg List.length HY.out
      rw [insP_len, List.length_append] at this
      omega
    by_cases hlt : k < l.length
    · have q0 : decide ((k : Int) < (l.length : Int)) = true := decide_eq_true (by omega)
      have q5 : k + 1 ≤ l.length := by omega
      obtain ⟨b, off, y, rfl, hy, hbs, c0, c1⟩ := rd_qas HR.out (etr E1.out X.out) hlt
      have HD := drop_at hy
      have HN := ins_drop (x := x) hy
      have XA : Hid (Ext wr (wr.alloc (.cells #[.int .i64 y.id, .int .i64 y.place] 106))) := eal (Ext.refl _) _
      have CXA : Hid (CellsAt (wr.alloc (.cells #[.int .i64 y.id, .int .i64 y.place] 106)) wr.heap.size (Qc y)) := CellsAt.new rfl
      have hbs1 := lt_up2 hbs
      have HYY := Lib.hid hy
      clear hy
      cases d
      case true =>
        have HZ : Hid (insP x l = (ys ++ [y]) ++ (if true = true then l.drop (k + 1) else insP x (l.drop (k + 1)))) := by
          show _ = _
          have h := HY.out
          rw [if_pos rfl, HD] at h
          rw [if_pos rfl, h]; simp
        clear HD HN HY
        clear XA CXA
        have HRY : Hid (∀ wq, Ext v wq → wq.cell? ⟨b, off + k * 2, none⟩ = some (.int .i64 y.id) ∧ wq.cell? ⟨b, off + k * 2 + 1, none⟩ = some (.int .i64 y.place) ∧ b < wq.heap.size) := (fun wq h => by obtain ⟨b', off', y', hA, hy', h1, h2, h3⟩ := rd_qas HR.out (etr E1.out h) hlt; cases hA; rw [HYY.out] at hy'; cases hy'; exact ⟨h2, h3, h1⟩)
        go_upto_region 6 with (fail)
        refine wp_region_after (by kernel_rfl) (by kernel_rfl) ?_
        repeat (first | go_big_quiet_step ((fail)))
        refine wpQuiet_nil ?_
        rintro _ ⟨y5, rfl⟩
        have B3 : Hid (CellsAt y5.val w.heap.size (Qc x)) := B2.out.keep y5.is
        have r0 := B3.out.1
        have r1 := B3.out.2 0 _ rfl
        have r2 := B3.out.2 1 _ rfl
        have g := HRY.out _ (etr X.out y5.is)
        have c0' := g.1
        have c1' := g.2.1
        have hb6 := g.2.2
        have hb7 := lt_up2 hb6
        clear g c0 c1 hbs hbs1 p0 p1 p2
        have XA : Hid (Ext wr (y5.val.alloc (.cells #[.int .i64 y.id, .int .i64 y.place] 106))) := eal y5.is _
        have CXA : Hid (CellsAt (y5.val.alloc (.cells #[.int .i64 y.id, .int .i64 y.place] 106)) y5.val.heap.size (Qc y)) := CellsAt.new rfl
        go_wp2_with (at_builtin; refine wp_appE (u := v) Qc_len Qc_one Tryd.underlying39 HI.out hz0 hz1 hz2 rfl (by decide) rfl rfl rfl (O.out.keep XA.out) (etr X.out XA.out) y (y5.val.heap.size) (by simp [go_sem]) CXA.out (by omega) (by unfold maxLen; omega) ?_; intro v1 w6 H6; clear XA)
        go_roundg (l.length - (k + 1))
        case measure => have := HG.out; omega
        case rel => exact ⟨k + 1, true, _, by go_num, rfl, by omega, rfl, H6.out.2.1, H6.out.1, HZ.out⟩
      case false =>
        cases hb : befP x y
        · have HZ : Hid (insP x l = (ys ++ [y]) ++ (if false = true then l.drop (k + 1) else insP x (l.drop (k + 1)))) := by
            show _ = _
            have h := HY.out
            rw [if_neg (by simp), HN, hb, if_neg (by simp)] at h
            rw [if_neg (by simp), h]; simp
          clear HD HN HY
          have key : decide (x.place < y.place) = false ∧ ((x.place == y.place) = false ∨ ((x.place == y.place) = true ∧ decide (x.id < y.id) = false)) := by
            rw [befP_false] at hb
            refine ⟨decide_eq_false (by omega), ?_⟩
            rcases hb with h | ⟨h1, h2⟩
            · exact .inl (by simp; omega)
            · exact .inr ⟨by simpa using h1, decide_eq_false (by omega)⟩
          clear hb
          obtain ⟨q1, q2 | ⟨q2, q3⟩⟩ := key
          all_goals
            clear XA CXA
            have HRY : Hid (∀ wq, Ext v wq → wq.cell? ⟨b, off + k * 2, none⟩ = some (.int .i64 y.id) ∧ wq.cell? ⟨b, off + k * 2 + 1, none⟩ = some (.int .i64 y.place) ∧ b < wq.heap.size) := (fun wq h => by obtain ⟨b', off', y', hA, hy', h1, h2, h3⟩ := rd_qas HR.out (etr E1.out h) hlt; cases hA; rw [HYY.out] at hy'; cases hy'; exact ⟨h2, h3, h1⟩)
            go_upto_region 6 with (fail)
            refine wp_region_after (by kernel_rfl) (by kernel_rfl) ?_
            repeat (first | go_big_quiet_step ((fail)))
            refine wpQuiet_nil ?_
            rintro _ ⟨y5, rfl⟩
            have B3 : Hid (CellsAt y5.val w.heap.size (Qc x)) := B2.out.keep y5.is
            have r0 := B3.out.1
            have r1 := B3.out.2 0 _ rfl
            have r2 := B3.out.2 1 _ rfl
            have g := HRY.out _ (etr X.out y5.is)
            have c0' := g.1
            have c1' := g.2.1
            have hb6 := g.2.2
            have hb7 := lt_up2 hb6
            clear g c0 c1 hbs hbs1 p0 p1 p2
            have XA : Hid (Ext wr (y5.val.alloc (.cells #[.int .i64 y.id, .int .i64 y.place] 106))) := eal y5.is _
            have CXA : Hid (CellsAt (y5.val.alloc (.cells #[.int .i64 y.id, .int .i64 y.place] 106)) y5.val.heap.size (Qc y)) := CellsAt.new rfl
            go_wp2_with (at_builtin; refine wp_appE (u := v) Qc_len Qc_one Tryd.underlying39 HI.out hz0 hz1 hz2 rfl (by decide) rfl rfl rfl (O.out.keep XA.out) (etr X.out XA.out) y (y5.val.heap.size) (by simp [go_sem]) CXA.out (by omega) (by unfold maxLen; omega) ?_; intro v1 w6 H6; clear XA)
            go_roundg (l.length - (k + 1))
            case measure => have := HG.out; omega
            case rel => exact ⟨k + 1, false, _, by go_num, rfl, by omega, rfl, H6.out.2.1, H6.out.1, HZ.out⟩
        · have HZ : Hid (insP x l = ((ys ++ [x]) ++ [y]) ++ (if true = true then l.drop (k + 1) else insP x (l.drop (k + 1)))) := by
            show _ = _
            have h := HY.out
            rw [if_neg (by simp), HN, hb, if_pos rfl] at h
            rw [if_pos rfl, h]; simp
          clear HD HN HY XA CXA
          have key : decide (x.place < y.place) = true ∨ (decide (x.place < y.place) = false ∧ (x.place == y.place) = true ∧ decide (x.id < y.id) = true) := by
            rw [befP_true] at hb
            rcases hb with h | ⟨h1, h2⟩
            · exact .inl (decide_eq_true h)
            · exact .inr ⟨decide_eq_false (by omega), by simpa using h1, decide_eq_true h2⟩
          clear hb
          rcases key with q1 | ⟨q1, q2, q3⟩
          all_goals
            have HRY : Hid (∀ wq, Ext v wq → wq.cell? ⟨b, off + k * 2, none⟩ = some (.int .i64 y.id) ∧ wq.cell? ⟨b, off + k * 2 + 1, none⟩ = some (.int .i64 y.place) ∧ b < wq.heap.size) := (fun wq h => by obtain ⟨b', off', y', hA, hy', h1, h2, h3⟩ := rd_qas HR.out (etr E1.out h) hlt; cases hA; rw [HYY.out] at hy'; cases hy'; exact ⟨h2, h3, h1⟩)
            go_upto_region 6 with (fail)
            refine wp_region_after (by kernel_rfl) (by kernel_rfl) ?_
            repeat (first | go_big_quiet_step ((fail)))
            refine wpQuiet_nil ?_
            rintro _ ⟨y5, rfl⟩
            have B3 : Hid (CellsAt y5.val w.heap.size (Qc x)) := B2.out.keep y5.is
            have r0 := B3.out.1
            have r1 := B3.out.2 0 _ rfl
            have r2 := B3.out.2 1 _ rfl
            have g := HRY.out _ (etr X.out y5.is)
            have c0' := g.1
            have c1' := g.2.1
            have hb6 := g.2.2
            have hb7 := lt_up2 hb6
            clear g c0 c1 hbs hbs1 p0 p1 p2
            have XA : Hid (Ext wr (y5.val.alloc (.cells #[.int .i64 x.id, .int .i64 x.place] 106))) := eal y5.is _
            have CXA : Hid (CellsAt (y5.val.alloc (.cells #[.int .i64 x.id, .int .i64 x.place] 106)) y5.val.heap.size (Qc x)) := CellsAt.new rfl
            go_upto_region 9 with (at_builtin; refine wp_appE (u := v) Qc_len Qc_one Tryd.underlying39 HI.out hz0 hz1 hz2 rfl (by decide) rfl rfl rfl (O.out.keep XA.out) (etr X.out XA.out) x (y5.val.heap.size) (by simp [go_sem]) CXA.out (by omega) (by unfold maxLen; omega) ?_; intro v1 w6 H6; clear XA)
            clear c0' c1' hb6 hb7
            have g := HRY.out w6 H6.out.2.1
            have c0' := g.1
            have c1' := g.2.1
            have hb6 := g.2.2
            have hb7 := lt_up2 hb6
            clear g
            have XB : Hid (Ext w6 (w6.alloc (.cells #[.int .i64 y.id, .int .i64 y.place] 106))) := eal (Ext.refl _) _
            have CXB : Hid (CellsAt (w6.alloc (.cells #[.int .i64 y.id, .int .i64 y.place] 106)) w6.heap.size (Qc y)) := CellsAt.new rfl
            have hyl2 : (ys ++ [x]).length ≤ l.length + 2 := by simp; omega
            go_wp2_with (at_builtin; refine wp_appE (u := v) Qc_len Qc_one Tryd.underlying39 HI.out hz0 hz1 hz2 rfl (by decide) rfl rfl rfl (H6.out.1.keep XB.out) (etr H6.out.2.1 XB.out) y (w6.heap.size) (by simp [go_sem]) CXB.out (by omega) (by unfold maxLen; omega) ?_; intro v2 w7 H7; clear XB)
            go_roundg (l.length - (k + 1))
            case measure => have := HG.out; omega
            case rel => exact ⟨k + 1, true, _, by go_num, rfl, by omega, rfl, H7.out.2.1, H7.out.1, HZ.out⟩
    · have q0 : decide ((k : Int) < (l.length : Int)) = false := decide_eq_false (by omega)
      have hd : l.drop k = [] := List.drop_eq_nil_of_le (by omega)
      cases d
      case true =>
        have HZ : Hid (ys = insP x l) := by
          show _ = _
          have h := HY.out
          rw [if_pos rfl, hd] at h
          rw [h]; simp
        clear HY hd
        obtain ⟨A7, c7, rfl, hr7, hm7⟩ := O.out.rd Qc_len
        have HRT : Hid (Ending.returned (.slice A7 ys.length c7) = .returned (.slice A7 (insP x l).length c7)) := by show _ = _; rw [HZ.out]
        have HR7 : Hid (Rd wr A7 2 Qc (insP x l)) := by rw [← HZ.out]; exact hr7
        clear hr7 hm7
        go_wp2
        go_ret
        exact ⟨A7, c7, HRT.out, HR7.out, etr E1.out X.out⟩
      case false =>
        have HZ : Hid (ys ++ [x] = insP x l) := by
          show _ = _
          have h := HY.out
          rw [if_neg (by simp), hd] at h
          rw [h]; simp [insP]
        clear HY hd
        have XA : Hid (Ext wr (wr.alloc (.cells #[.int .i64 x.id, .int .i64 x.place] 106))) := eal (Ext.refl _) _
        have CXA : Hid (CellsAt (wr.alloc (.cells #[.int .i64 x.id, .int .i64 x.place] 106)) wr.heap.size (Qc x)) := CellsAt.new rfl
        go_upto_region 12 with (at_builtin; refine wp_appE (u := v) Qc_len Qc_one Tryd.underlying39 HI.out hz0 hz1 hz2 rfl (by decide) rfl rfl rfl (O.out.keep XA.out) (etr X.out XA.out) x (wr.heap.size) (by simp [go_sem]) CXA.out (by omega) (by unfold maxLen; omega) ?_; intro v1 w6 H6; clear XA)
        obtain ⟨A7, c7, rfl, hr7, hm7⟩ := H6.out.1.rd Qc_len
        have HRT : Hid (Ending.returned (.slice A7 (ys ++ [x]).length c7) = .returned (.slice A7 (insP x l).length c7)) := by show _ = _; rw [HZ.out]
        have HR7 : Hid (Rd w6 A7 2 Qc (insP x l)) := by rw [← HZ.out]; exact hr7
        have X6 := Lib.hid H6.out.2.1
        clear hr7 hm7 H6
        go_wp2
        go_ret
        exact ⟨A7, c7, HRT.out, HR7.out, etr E1.out X6.out⟩
end
end Go.Proofs.YticonpjkcocgeaaDoor
