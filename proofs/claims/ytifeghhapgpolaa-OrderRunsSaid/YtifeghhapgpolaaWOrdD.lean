/- Walks of package order and of its reference: Give. -/
import Derived.Test.YtifeghhapgpolaaWOrdC
set_option linter.unusedVariables false
set_option linter.unusedSimpArgs false
namespace Go.Proofs.Ytifeghhapgpolaa
open Go.ChangeShapes Go.WideShapes Go.ChangeAt Go.RowKit
open Sg

/-- What the reference's loop has laid so far. -/
def PutOk (l : List Odr) (o : Odr) (k : Nat) (d : Bool) (ys : List Odr) : Prop := ys.length ≤ k + 1 ∧ ((d = false ∧ ys = l.take k ∧ ∀ a ∈ l.take k, befB o a = false) ∨ (d = true ∧ ys ++ l.drop k = insO o l))
theorem put_start (l : List Odr) (o : Odr) : PutOk l o 0 false [] := ⟨by simp, .inl ⟨rfl, rfl, fun a h => by simp at h⟩⟩
theorem drop_at {l : List Odr} {k : Nat} {p : Odr} (hk : l[k]? = some p) : l.drop k = p :: l.drop (k + 1) := by
  obtain ⟨hl, rfl⟩ := List.getElem?_eq_some_iff.1 hk
  exact List.drop_eq_getElem_cons hl
theorem take_at {l : List Odr} {k : Nat} {p : Odr} (hk : l[k]? = some p) : l.take (k + 1) = l.take k ++ [p] := by
  obtain ⟨hl, rfl⟩ := List.getElem?_eq_some_iff.1 hk
  exact List.take_succ_eq_append_getElem hl
theorem put_later {l : List Odr} {o p : Odr} {k : Nat} {ys : List Odr} (hk : l[k]? = some p) (h : PutOk l o k true ys) : PutOk l o (k + 1) true (ys ++ [p]) := by
  obtain ⟨h1, h2 | ⟨_, h2⟩⟩ := h
  · cases h2.1
  · refine ⟨by simp; omega, .inr ⟨rfl, ?_⟩⟩
    rw [← h2, drop_at hk]; simp
theorem put_not {l : List Odr} {o p : Odr} {k : Nat} {ys : List Odr} (hk : l[k]? = some p) (hb : befB o p = false) (h : PutOk l o k false ys) : PutOk l o (k + 1) false (ys ++ [p]) := by
  obtain ⟨h1, ⟨_, h2, h3⟩ | h2⟩ := h
  · refine ⟨by simp; omega, .inl ⟨rfl, by rw [h2, take_at hk], fun a ha => ?_⟩⟩
    rw [take_at hk] at ha
    rcases List.mem_append.1 ha with ha | ha
    · exact h3 a ha
    · simp at ha; subst ha; exact hb
  · cases h2.1
theorem put_now {l : List Odr} {o p : Odr} {k : Nat} {ys : List Odr} (hk : l[k]? = some p) (hb : befB o p = true) (h : PutOk l o k false ys) : PutOk l o (k + 1) true (ys ++ [o] ++ [p]) := by
  obtain ⟨h1, ⟨_, h2, h3⟩ | h2⟩ := h
  · have hl : k < l.length := (List.getElem?_eq_some_iff.1 hk).1
    refine ⟨?_, .inr ⟨rfl, ?_⟩⟩
    · have : ys.length = k := by rw [h2, List.length_take]; omega
      simp; omega
    · rw [insO_at hk hb h3, h2, drop_at hk]; simp
  · cases h2.1
theorem put_end {l : List Odr} {o : Odr} {k : Nat} {d : Bool} {ys : List Odr} (hk : l.length ≤ k) (h : PutOk l o k d ys) : (if d = true then ys else ys ++ [o]) = insO o l := by
  obtain ⟨_, ⟨rfl, h2, h3⟩ | ⟨rfl, h2⟩⟩ := h
  · rw [List.take_of_length_le hk] at h2 h3
    rw [if_neg (by decide), h2, insO_last h3]
  · rw [if_pos rfl, ← h2, List.drop_of_length_le hk]; simp
theorem od_at {w wr : World} {b off : Nat} {l : List Odr} {k : Nat} {p : Odr} (h : Rd w (some ⟨b, off, none⟩) 3 Oc l) (hb : Ext w wr) (hk : l[k]? = some p) :
    b < wr.heap.size ∧ wr.cell? ⟨b, off + k * 3, none⟩ = some (.int .i64 p.train) ∧ wr.cell? ⟨b, off + k * 3 + 1, none⟩ = some (.int .i64 p.kind) ∧ wr.cell? ⟨b, off + k * 3 + 1 + 1, none⟩ = some (.int .i64 p.until_) := by
  have hl : k < l.length := (List.getElem?_eq_some_iff.1 hk).1
  obtain ⟨b', off', s, e, hs, h1, h2, h3, h4⟩ := rd_od h hb hl
  rw [hk] at hs
  cases hs
  simp only [Option.some.injEq, Addr.mk.injEq] at e
  obtain ⟨rfl, rfl, _⟩ := e
  exact ⟨h1, h2, h3, h4⟩
set_option maxHeartbeats 8000000 in
theorem put_any (A : Option Addr) (l : List Odr) (c : Nat) (o : Odr) (w : World) (hm : l.length ≤ 400000) (hr : Rd w A 3 Oc l) :
    Calls Try.prog 21 #[.slice A l.length c, .agg #[.int .i64 o.train, .int .i64 o.kind, .int .i64 o.until_]] w fun e w' => ∃ B d, e = .returned (.slice B (insO o l).length d) ∧ Rd w' B 3 Oc (insO o l) ∧ Below w.heap.size w w' := by
  have HR := Lib.hid hr
  clear hr
  obtain ⟨i0, hi, hz0, hz1, hz2⟩ := info_parts inf_Od
  have HE0 := Lib.hid (eal (Ext.refl w) (.cells #[.int .i64 o.train, .int .i64 o.kind, .int .i64 o.until_] 24))
  have HB := Lib.hid (CellsAt.new (w := w) (cs := #[.int .i64 o.train, .int .i64 o.kind, .int .i64 o.until_]) (t := 24) rfl)
  have HS : Hid ((w.alloc (.cells #[.int .i64 o.train, .int .i64 o.kind, .int .i64 o.until_] 24)).heap.size = w.heap.size + 1) := by show _ = _; simp
  go_enter Try.func21, Try.ntmps21
  go_wp2_with fail
  obtain ⟨w1, hw1⟩ : ∃ w1, w1 = w.alloc (.cells #[.int .i64 o.train, .int .i64 o.kind, .int .i64 o.until_] 24) := ⟨_, rfl⟩
  rw [← hw1] at HE0 HB HS ⊢
  clear hw1
  have hs1 := HS.out
  go_loopg [5, 6, 7] l.length (fun g u dn i wr => ∃ (k : Nat) (d : Bool) (ys : List Odr), dn = .bool d ∧ i = .int .i64 k ∧ k ≤ l.length ∧ g = l.length - k ∧ Hid (Ext w1 wr ∧ OwnL wr w1.heap.size 24 3 Oc u ys ∧ PutOk l o k d ys))
  case atStart => exact ⟨0, false, [], rfl, rfl, by omega, rfl, Ext.refl _, OwnL.nil, put_start l o⟩
  case round =>
    obtain ⟨k, d, ys, rfl, rfl, hk, hg, H⟩ := hrel
    have HG := Lib.hid hg
    clear hg
    have hlen := H.out.2.2.1
    have hsz := H.out.1.size
    have CB := HB.out.keep H.out.1
    have b0 := CB.2 0 _ rfl
    have b1 := CB.2 1 _ rfl
    have b2 := CB.2 2 _ rfl
    have bz := CB.1
    clear CB
    by_cases hlt : k < l.length
    · obtain ⟨b, off, p, rfl, hs, hbs, c0, c1, c2⟩ := rd_od HR.out (etr HE0.out H.out.1) hlt
      cases d
      · cases hb : befB o p
        · have HN := Lib.hid (put_not hs hb H.out.2.2)
          clear hs
          have HBF : Hid (∀ w, Calls Try.prog 24 #[.agg #[.int .i64 o.train, .int .i64 o.kind, .int .i64 o.until_], .agg #[.int .i64 p.train, .int .i64 p.kind, .int .i64 p.until_]] w fun e w' => e = .returned (.bool false) ∧ Below w.heap.size w w') := by intro w; rw [← hb]; exact before_any o p w
          clear hb
          go_wp2_with fail
          refine wp_region_after (by kernel_rfl) (by kernel_rfl) ?_
          repeat (first | go_big_quiet_step ((go_at_call 24; exact after_call _ (HBF.out _))))
          refine wpQuiet_nil ?_
          rintro _ ⟨y, rfl⟩
          go_wp2_with (at_builtin
                       refine wp_appE (u := w1) Oc_len Oc_one Try.underlying22 hi hz0 hz1 hz2 rfl (by decide) rfl rfl rfl ((H.out.2.1.keep y.is).keep (eal (Ext.refl _) _)) (eal (etr H.out.1 y.is) _) p y.val.heap.size (by simp [go_sem]) (by exact CellsAt.new rfl) (by omega) (by unfold maxLen; omega) ?_
                       intro v1 w2 H1)
          go_roundg (l.length - (k + 1))
          case measure => have := HG.out; omega
          case rel => exact ⟨k + 1, false, ys ++ [p], rfl, by go_num, by omega, rfl, H1.out.2.1, H1.out.1, HN.out⟩
        · have HN := Lib.hid (put_now hs hb H.out.2.2)
          have HSK := Lib.hid hs
          clear hs
          have HBF : Hid (∀ w, Calls Try.prog 24 #[.agg #[.int .i64 o.train, .int .i64 o.kind, .int .i64 o.until_], .agg #[.int .i64 p.train, .int .i64 p.kind, .int .i64 p.until_]] w fun e w' => e = .returned (.bool true) ∧ Below w.heap.size w w') := by intro w; rw [← hb]; exact before_any o p w
          clear hb
          have hlx : ys.length ≤ k := by
            obtain ⟨_, ⟨_, h2, _⟩ | h2⟩ := H.out.2.2
            · rw [h2, List.length_take]; omega
            · cases h2.1
          go_wp2_with fail
          refine wp_region_after (by kernel_rfl) (by kernel_rfl) ?_
          repeat (first | go_big_quiet_step ((go_at_call 24; exact after_call _ (HBF.out _))))
          refine wpQuiet_nil ?_
          rintro _ ⟨y, rfl⟩
          go_wp2_with (first
            | (at_builtin
               refine wp_appE (u := w1) Oc_len Oc_one Try.underlying22 hi hz0 hz1 hz2 rfl (by decide) rfl rfl rfl ((H.out.2.1.keep y.is).keep (eal (Ext.refl _) _)) (eal (etr H.out.1 y.is) _) o y.val.heap.size (by simp [go_sem]) (by exact CellsAt.new rfl) (by omega) (by unfold maxLen; omega) ?_
               intro v1 w2 H1
               have d3 := od_at HR.out (etr HE0.out H1.out.2.1) HSK.out
               have dz := d3.1
               have d0 := d3.2.1
               have d1 := d3.2.2.1
               have d2 := d3.2.2.2
               clear d3)
            | (at_builtin
               refine wp_appE (u := w1) Oc_len Oc_one Try.underlying22 hi hz0 hz1 hz2 rfl (by decide) rfl rfl rfl (H1.out.1.keep (eal (Ext.refl _) _)) (eal H1.out.2.1 _) p w2.heap.size (by simp [go_sem]) (by exact CellsAt.new rfl) (by simp; omega) (by simp; unfold maxLen; omega) ?_
               intro v3 w3 H3))
          go_roundg (l.length - (k + 1))
          case measure => have := HG.out; omega
          case rel => exact ⟨k + 1, true, ys ++ [o] ++ [p], rfl, by go_num, by omega, rfl, H3.out.2.1, H3.out.1, HN.out⟩
      · have HN := Lib.hid (put_later hs H.out.2.2)
        clear hs
        go_wp2_with fail
        refine wp_region_after (by kernel_rfl) (by kernel_rfl) ?_
        repeat (first | go_big_quiet_step (fail))
        refine wpQuiet_nil ?_
        rintro _ ⟨y, rfl⟩
        go_wp2_with (at_builtin
                     refine wp_appE (u := w1) Oc_len Oc_one Try.underlying22 hi hz0 hz1 hz2 rfl (by decide) rfl rfl rfl ((H.out.2.1.keep y.is).keep (eal (Ext.refl _) _)) (eal (etr H.out.1 y.is) _) p y.val.heap.size (by simp [go_sem]) (by exact CellsAt.new rfl) (by omega) (by unfold maxLen; omega) ?_
                     intro v1 w2 H1)
        go_roundg (l.length - (k + 1))
        case measure => have := HG.out; omega
        case rel => exact ⟨k + 1, true, ys ++ [p], rfl, by go_num, by omega, rfl, H1.out.2.1, H1.out.1, HN.out⟩
    · have HQ := Lib.hid (put_end (by omega) H.out.2.2)
      cases d
      · go_wp2_with (at_builtin
                     refine wp_appE (u := w1) Oc_len Oc_one Try.underlying22 hi hz0 hz1 hz2 rfl (by decide) rfl rfl rfl (H.out.2.1.keep (eal (Ext.refl _) _)) (eal H.out.1 _) o wr.heap.size (by simp [go_sem]) (by exact CellsAt.new rfl) (by omega) (by unfold maxLen; omega) ?_
                     intro v1 w2 H1)
        go_ret
        have HQ2 : ys ++ [o] = insO o l := by have := HQ.out; simpa using this
        rw [HQ2] at H1
        obtain ⟨B, dd, rfl, hrd, _⟩ := H1.out.1.rd Oc_len
        exact ⟨B, dd, rfl, hrd, etr HE0.out H1.out.2.1⟩
      · go_wp2
        go_ret
        have HQ2 : ys = insO o l := by have := HQ.out; simpa using this
        subst HQ2
        obtain ⟨B, dd, rfl, hrd, _⟩ := H.out.2.1.rd Oc_len
        exact ⟨B, ⟨dd, rfl⟩, hrd, etr HE0.out H.out.1⟩
/-- What the tests of Give say. -/
theorem bad_key {o : Odr} {now : Int} (h : badG o now) : (o.train < 1) ∨ (decide (o.train < 1) = false ∧ 99 < o.train) ∨ (decide (o.train < 1) = false ∧ decide (99 < o.train) = false ∧ evV o.kind = 0) ∨
    (decide (o.train < 1) = false ∧ decide (99 < o.train) = false ∧ (evV o.kind == 0) = false ∧ o.until_ ≤ now) := by
  simp only [decide_eq_false_iff_not, beq_eq_false_iff_ne]
  unfold badG at h
  by_cases h1 : o.train < 1
  · exact .inl h1
  by_cases h2 : 99 < o.train
  · exact .inr (.inl ⟨h1, h2⟩)
  by_cases h3 : evV o.kind = 0
  · exact .inr (.inr (.inl ⟨h1, h2, h3⟩))
  · exact .inr (.inr (.inr ⟨h1, h2, h3, by omega⟩))
theorem good_key {o : Odr} {now : Int} (h : ¬ badG o now) : decide (o.train < 1) = false ∧ decide (99 < o.train) = false ∧ (evV o.kind == 0) = false ∧ decide (o.until_ ≤ now) = false := by
  simp only [decide_eq_false_iff_not, beq_eq_false_iff_ne]
  unfold badG at h
  simp only [not_or] at h
  exact h
theorem kind_key {k : Int} (h : (evV k == 0) = false) : (k == 5) = true ∨ ((k == 5) = false ∧ (k == 6) = true) ∨ ((k == 5) = false ∧ (k == 6) = false ∧ (k == 7) = true) := by
  simp only [beq_eq_false_iff_ne, beq_iff_eq] at *
  rw [Ne, evV_zero] at h
  omega
theorem hit_no {t k : Int} {p : Odr} (h : hitR t k p = false) : (p.train != t) = true ∨ ((p.train != t) = false ∧ (p.kind != k) = true) := by
  unfold hitR at h
  cases h1 : (p.train == t)
  · exact .inl (by rw [bne, h1]; rfl)
  · rw [h1, Bool.true_and] at h
    exact .inr ⟨by rw [bne, h1]; rfl, by rw [bne, h]; rfl⟩
theorem hit_yes {t k : Int} {p : Odr} (h : hitR t k p = true) : (p.train != t) = false ∧ (p.kind != k) = false := by
  unfold hitR at h
  rw [Bool.and_eq_true] at h
  exact ⟨by rw [bne, h.1]; rfl, by rw [bne, h.2]; rfl⟩
theorem ret_vi' {v : Value} {k : IntKind} {a b : Int} (h : a = b) : Ending.returned (.tuple #[v, .int k a]) = .returned (.tuple #[v, .int k b]) := by rw [h]
/-- What Give leaves. -/
def GiveIs (w w' : World) (e : Ending) (l : List Odr) (o : Odr) (now : Int) : Prop :=
  ∃ B d, e = .returned (.tuple #[.slice B (givL l o now).length d, .int .i64 (givE l o now)]) ∧ Rd w' B 3 Oc (givL l o now) ∧ Below w.heap.size w w'
theorem giveIs_bad {w w' : World} {l : List Odr} {o : Odr} {now : Int} (h : badG o now) (hb : Below w.heap.size w w') : GiveIs w w' (.returned (.tuple #[.slice none 0 0, .int .i64 1])) l o now := by
  obtain ⟨e1, e2⟩ := giv_bad (l := l) h
  exact ⟨none, 0, by rw [e1, e2]; rfl, by rw [e2]; exact Rd.nil, hb⟩
theorem giveIs_full {w w' : World} {l : List Odr} {o : Odr} {now : Int} (h : ¬ badG o now) (hl : 16 ≤ (restR l o).length) (hb : Below w.heap.size w w') : GiveIs w w' (.returned (.tuple #[.slice none 0 0, .int .i64 16])) l o now := by
  obtain ⟨e1, e2⟩ := giv_full (l := l) h hl
  exact ⟨none, 0, by rw [e1, e2]; rfl, by rw [e2]; exact Rd.nil, hb⟩
theorem giveIs_ok {w w' : World} {l : List Odr} {o : Odr} {now : Int} {B : Option Addr} {n d : Nat} (h : ¬ badG o now) (hl : ¬ 16 ≤ (restR l o).length) (hn : n = (sortO (restR l o ++ [o])).length) (hr : Rd w' B 3 Oc (sortO (restR l o ++ [o]))) (hb : Below w.heap.size w w') :
    GiveIs w w' (.returned (.tuple #[.slice B n d, .int .i64 0])) l o now := by
  obtain ⟨e1, e2⟩ := giv_ok (l := l) h hl
  subst hn
  exact ⟨B, d, by rw [e1, e2], by rw [e2]; exact hr, hb⟩
set_option maxHeartbeats 8000000 in
set_option maxRecDepth 100000 in
theorem give_any (A : Option Addr) (l : List Odr) (c : Nat) (o : Odr) (now : Int) (w : World) (hm : l.length ≤ 400000) (hr : Rd w A 3 Oc l) :
    Calls Try.prog 8 #[.slice A l.length c, .agg #[.int .i64 o.train, .int .i64 o.kind, .int .i64 o.until_], .int .i64 now] w fun e w' => GiveIs w w' e l o now := by
  have HR := Lib.hid hr
  clear hr
  obtain ⟨i0, hi, hz0, hz1, hz2⟩ := info_parts inf_Od
  have HE0 := Lib.hid (eal (Ext.refl w) (.cells #[.int .i64 o.train, .int .i64 o.kind, .int .i64 o.until_] 24))
  by_cases hbad : badG o now
  · have HBD := Lib.hid hbad
    have key := bad_key hbad
    clear hbad
    rcases key with k1 | ⟨k1, k2⟩ | ⟨k1, k2, k3⟩ | ⟨k1, k2, k3, k4⟩
    all_goals
      go_enter Try.func8, Try.ntmps8
      go_wp2_with (go_at_call 15; refine (event_any _ _).mono ?_; rintro e w' ⟨rfl, rfl⟩)
      go_ret2
      exact giveIs_bad HBD.out HE0.out
  · have HG0 := Lib.hid hbad
    obtain ⟨k1, k2, k3, k4⟩ := good_key hbad
    clear hbad
    have HB := Lib.hid (CellsAt.new (w := w) (cs := #[.int .i64 o.train, .int .i64 o.kind, .int .i64 o.until_]) (t := 24) rfl)
    have HS : Hid ((w.alloc (.cells #[.int .i64 o.train, .int .i64 o.kind, .int .i64 o.until_] 24)).heap.size = w.heap.size + 1) := by show _ = _; simp
    go_enter Try.func8, Try.ntmps8
    go_wp2_with (go_at_call 15; refine (event_any _ _).mono ?_; rintro e w' ⟨rfl, rfl⟩)
    obtain ⟨w1, hw1⟩ : ∃ w1, w1 = w.alloc (.cells #[.int .i64 o.train, .int .i64 o.kind, .int .i64 o.until_] 24) := ⟨_, rfl⟩
    rw [← hw1] at HE0 HB HS ⊢
    clear hw1
    have hs1 := HS.out
    go_loopg [8, 33] l.length (fun g u i wr => ∃ k : Nat, i = .int .i64 k ∧ k ≤ l.length ∧ g = l.length - k ∧ Hid (Ext w1 wr ∧ OwnL wr w1.heap.size 24 3 Oc u (restR (l.take k) o)))
    case atStart => exact ⟨0, rfl, by omega, rfl, Ext.refl _, OwnL.nil⟩
    case round =>
      obtain ⟨k, rfl, hk, hg, H⟩ := hrel
      have HG := Lib.hid hg
      clear hg
      have hsz := H.out.1.size
      have CB := HB.out.keep H.out.1
      have b0 := CB.2 0 _ rfl
      have b1 := CB.2 1 _ rfl
      have b2 := CB.2 2 _ rfl
      have bz := CB.1
      clear CB
      by_cases hlt : k < l.length
      · obtain ⟨b, off, p, rfl, hs, hbs, c0, c1, c2⟩ := rd_od HR.out (etr HE0.out H.out.1) hlt
        have HT := Lib.hid (restR_take o hs)
        have hlen : (restR (l.take k) o).length ≤ k := by have := restR_len (l.take k) o; simp at this; omega
        clear hs
        cases hh : hitR o.train o.kind p
        · have HQ : Hid (restR (l.take (k + 1)) o = restR (l.take k) o ++ [p]) := by show _ = _; rw [HT.out, hh]; rfl
          have key := hit_no hh
          clear hh
          rcases key with q1 | ⟨q1, q2⟩
          all_goals
            go_wp2_with (at_builtin
                         refine wp_appE (u := w1) Oc_len Oc_one Try.underlying22 hi hz0 hz1 hz2 rfl (by decide) rfl rfl rfl ((H.out.2.keep (eal (Ext.refl _) _)).keep (eal (Ext.refl _) _)) (eal (eal H.out.1 _) _) p (wr.heap.size + 1) (by simp [go_sem]) (by exact CellsAt.new (by simp)) (by omega) (by unfold maxLen; omega) ?_
                         intro v1 w2 H1)
            go_roundg (l.length - (k + 1))
            case measure => have := HG.out; omega
            case rel => exact ⟨k + 1, by go_num, by omega, rfl, H1.out.2.1, by rw [HQ.out]; exact H1.out.1⟩
        · have HQ : Hid (restR (l.take (k + 1)) o = restR (l.take k) o) := by show _ = _; rw [HT.out, hh]; simp
          obtain ⟨q1, q2⟩ := hit_yes hh
          clear hh
          go_wp2
          go_roundg (l.length - (k + 1))
          case measure => have := HG.out; omega
          case rel => exact ⟨k + 1, by go_num, by omega, rfl, eal H.out.1 _, by rw [HQ.out]; exact H.out.2.keep (eal (Ext.refl _) _)⟩
      · have hq : restR (l.take k) o = restR l o := by rw [List.take_of_length_le (by omega)]
        have HO : Hid (OwnL wr w1.heap.size 24 3 Oc u8 (restR l o)) := by show OwnL _ _ _ _ _ _ _; rw [← hq]; exact H.out.2
        have HX := Lib.hid H.out.1
        clear hq H
        obtain ⟨B, dd, rfl, hrd, _⟩ := HO.out.rd Oc_len
        clear hrd
        have hll := restR_len l o
        by_cases hf : 16 ≤ (restR l o).length
        · have hfd : decide ((16 : Int) ≤ ((restR l o).length : Int)) = true := decide_eq_true (by omega)
          have HF := Lib.hid hf
          clear hf
          go_wp2
          go_ret2
          exact giveIs_full HG0.out HF.out (etr HE0.out HX.out)
        · have hfd : decide ((16 : Int) ≤ ((restR l o).length : Int)) = false := decide_eq_false (by omega)
          have hl16 : (restR l o).length < 16 := by omega
          have HF := Lib.hid hf
          clear hf
          go_wp2_with (at_builtin
                       refine wp_appE (u := w1) Oc_len Oc_one Try.underlying22 hi hz0 hz1 hz2 rfl (by decide) rfl rfl rfl (HO.out.keep (eal (Ext.refl _) _)) (eal HX.out _) o wr.heap.size (by simp [go_sem]) (by exact CellsAt.new rfl) (by omega) (by unfold maxLen; omega) ?_
                       intro v1 w2 H1
                       obtain ⟨g, cp, rfl, hcp, hg2, hown2⟩ := OwnL.form H1.out.1 (by simp)
                       have HOW := Lib.hid hown2
                       have HX2 := Lib.hid H1.out.2.1
                       have HG2 := Lib.hid hg2
                       clear hown2 hg2 H1)
          have hlen2 : (restR l o).length + 1 = (restR l o ++ [o]).length := by simp
          have SA := sorts_any g cp (restR l o ++ [o]) w2 HOW.out (by simp; omega)
          rw [← hlen2] at SA
          refine SA.mono ?_
          rintro e w3 ⟨rfl, hr3, hb3⟩
          have HR3 := Lib.hid hr3
          have HB3 : Hid (Ext w w3) := by
            have h1 := etr HE0.out HX2.out
            have h2 := HG2.out
            have h3 := HE0.out.size
            have : Below w.heap.size w2 w3 := hb3.mono (by omega)
            exact Below.trans h1 this
          clear hr3 hb3 SA
          go_wp2
          go_ret2
          exact giveIs_ok HG0.out HF.out (by rw [sortO_len]; exact hlen2) HR3.out HB3.out
theorem bad_key2 {o : Odr} {now : Int} (h : badG o now) : (o.train < 1) ∨ (decide (o.train < 1) = false ∧ 99 < o.train) ∨ (decide (o.train < 1) = false ∧ decide (99 < o.train) = false ∧ (o.kind != 5) = true ∧ (o.kind != 6) = true ∧ (o.kind != 7) = true) ∨
    (decide (o.train < 1) = false ∧ decide (99 < o.train) = false ∧ (evV o.kind == 0) = false ∧ o.until_ ≤ now) := by
  rcases bad_key h with h | h | ⟨h1, h2, h3⟩ | h
  · exact .inl h
  · exact .inr (.inl h)
  · rw [evV_zero] at h3
    exact .inr (.inr (.inl ⟨h1, h2, by simpa using h3.1, by simpa using h3.2.1, by simpa using h3.2.2⟩))
  · exact .inr (.inr (.inr h))
theorem kind_key2 {k : Int} (h : (evV k == 0) = false) : (k != 5) = false ∨ ((k != 5) = true ∧ (k != 6) = false) ∨ ((k != 5) = true ∧ (k != 6) = true ∧ (k != 7) = false) := by
  rcases kind_key h with h | ⟨h1, h2⟩ | ⟨h1, h2, h3⟩
  · exact .inl (by rw [bne, h]; rfl)
  · exact .inr (.inl ⟨by rw [bne, h1]; rfl, by rw [bne, h2]; rfl⟩)
  · exact .inr (.inr ⟨by rw [bne, h1]; rfl, by rw [bne, h2]; rfl, by rw [bne, h3]; rfl⟩)
theorem sort_next {l : List Odr} {o p : Odr} {k : Nat} (hs : l[k]? = some p) (hh : hitR o.train o.kind p = false) : sortO (restR (l.take (k + 1)) o) = insO p (sortO (restR (l.take k) o)) := by
  rw [restR_take o hs, hh]; exact sortO_snoc _ _
/-- The reference's way through its tests. -/
def RgLoop (A : Option Addr) (l : List Odr) (c : Nat) (o : Odr) (now : Int) (w : World) : Prop :=
    Calls Try.prog 9 #[.slice A l.length c, .agg #[.int .i64 o.train, .int .i64 o.kind, .int .i64 o.until_], .int .i64 now] w fun e w' => GiveIs w w' e l o now
set_option maxHeartbeats 16000000 in
set_option maxRecDepth 100000 in
theorem rgive_any (A : Option Addr) (l : List Odr) (c : Nat) (o : Odr) (now : Int) (w : World) (hm : l.length ≤ 100000) (hr : Rd w A 3 Oc l) :
    Calls Try.prog 9 #[.slice A l.length c, .agg #[.int .i64 o.train, .int .i64 o.kind, .int .i64 o.until_], .int .i64 now] w fun e w' => GiveIs w w' e l o now := by
  have HR := Lib.hid hr
  clear hr
  have HE0 := Lib.hid (eal (Ext.refl w) (.cells #[.int .i64 o.train, .int .i64 o.kind, .int .i64 o.until_] 24))
  by_cases hbad : badG o now
  · have HBD := Lib.hid hbad
    have key := bad_key2 hbad
    clear hbad
    rcases key with k1 | ⟨k1, k2⟩ | ⟨k1, k2, k3, k4, k5⟩ | ⟨k1, k2, k3, k4⟩
    · go_enter Try.func9, Try.ntmps9
      go_wp2
      go_ret2
      exact giveIs_bad HBD.out HE0.out
    · go_enter Try.func9, Try.ntmps9
      go_wp2
      go_ret2
      exact giveIs_bad HBD.out HE0.out
    · go_enter Try.func9, Try.ntmps9
      go_wp2
      go_ret2
      exact giveIs_bad HBD.out HE0.out
    · rcases kind_key2 k3 with q1 | ⟨q1, q2⟩ | ⟨q1, q2, q3⟩
      all_goals
        go_enter Try.func9, Try.ntmps9
        go_wp2
        go_ret2
        exact giveIs_bad HBD.out HE0.out
  · have HG0 := Lib.hid hbad
    obtain ⟨k1, k2, k3, k4⟩ := good_key hbad
    clear hbad
    have HB := Lib.hid (CellsAt.new (w := w) (cs := #[.int .i64 o.train, .int .i64 o.kind, .int .i64 o.until_]) (t := 24) rfl)
    have HS : Hid ((w.alloc (.cells #[.int .i64 o.train, .int .i64 o.kind, .int .i64 o.until_] 24)).heap.size = w.heap.size + 1) := by show _ = _; simp
    rcases kind_key2 k3 with q1 | ⟨q1, q2⟩ | ⟨q1, q2, q3⟩
    all_goals
      go_enter Try.func9, Try.ntmps9
      go_wp2_with fail
      obtain ⟨w1, hw1⟩ : ∃ w1, w1 = w.alloc (.cells #[.int .i64 o.train, .int .i64 o.kind, .int .i64 o.until_] 24) := ⟨_, rfl⟩
      rw [← hw1] at HE0 HB HS ⊢
      clear hw1
      have hs1 := HS.out
      go_loopg [8, 9] l.length (fun g u i wr => ∃ (k : Nat) (B : Option Addr) (n d : Nat), u = .slice B n d ∧ i = .int .i64 k ∧ k ≤ l.length ∧ g = l.length - k ∧ n ≤ k ∧ Hid (n = (sortO (restR (l.take k) o)).length ∧ Ext w1 wr ∧ Rd wr B 3 Oc (sortO (restR (l.take k) o))))
      case atStart => exact ⟨0, none, 0, 0, rfl, rfl, by omega, rfl, by omega, rfl, Ext.refl _, Rd.nil⟩
      case round =>
        obtain ⟨k, B, n, d, rfl, rfl, hk, hg, hnk, H⟩ := hrel
        have HG := Lib.hid hg
        clear hg
        have hsz := H.out.2.1.size
        have CB := HB.out.keep H.out.2.1
        have b0 := CB.2 0 _ rfl
        have b1 := CB.2 1 _ rfl
        have b2 := CB.2 2 _ rfl
        have bz := CB.1
        clear CB
        by_cases hlt : k < l.length
        · obtain ⟨b, off, p, rfl, hs, hbs, c0, c1, c2⟩ := rd_od HR.out (etr HE0.out H.out.2.1) hlt
          cases hh : hitR o.train o.kind p
          · have HN := Lib.hid (sort_next hs hh)
            have HSK := Lib.hid hs
            have key := hit_no hh
            clear hs hh
            have PA : Hid (∀ wq, Ext wr wq → Calls Try.prog 21 #[.slice B n d, .agg #[.int .i64 p.train, .int .i64 p.kind, .int .i64 p.until_]] wq fun e w' => ∃ B' d', e = .returned (.slice B' (n + 1) d') ∧ Rd w' B' 3 Oc (sortO (restR (l.take (k + 1)) o)) ∧ Below wq.heap.size wq w') := by
              intro wq hq
              have h := put_any B (sortO (restR (l.take k) o)) d p wq (by rw [← H.out.1]; omega) (H.out.2.2.keep hq)
              rw [insO_len, ← H.out.1, ← HN.out] at h
              exact h
            rcases key with n1 | ⟨n1, n2⟩
            all_goals
              go_wp2_with fail
              refine wp_region_after (by kernel_rfl) (by kernel_rfl) ?_
              repeat (first | go_big_quiet_step (fail))
              refine wpQuiet_nil ?_
              rintro _ ⟨y, rfl⟩
              go_wp2_with fail
              refine (PA.out _ y.is).mono ?_
              rintro e w5 ⟨B', d', rfl, hr5, hb5⟩
              have HR5 := Lib.hid hr5
              have HB5 := Lib.hid (etr (etr H.out.2.1 y.is) hb5)
              clear hr5 hb5
              go_wp2
              go_roundg (l.length - (k + 1))
              case measure => have := HG.out; omega
              case rel => exact ⟨k + 1, B', n + 1, d', rfl, by go_num, by omega, rfl, by omega, by rw [HN.out, insO_len, ← H.out.1], HB5.out, HR5.out⟩
          · have HQ : Hid (restR (l.take (k + 1)) o = restR (l.take k) o) := by show _ = _; rw [restR_take o hs, hh]; simp
            obtain ⟨n1, n2⟩ := hit_yes hh
            clear hs hh
            go_wp2_with fail
            refine wp_region_after (by kernel_rfl) (by kernel_rfl) ?_
            repeat (first | go_big_quiet_step (fail))
            refine wpQuiet_nil ?_
            rintro _ ⟨y, rfl⟩
            go_wp2
            go_roundg (l.length - (k + 1))
            case measure => have := HG.out; omega
            case rel => exact ⟨k + 1, B, n, d, rfl, by go_num, by omega, rfl, by omega, by rw [HQ.out]; exact H.out.1, etr H.out.2.1 y.is, by rw [HQ.out]; exact H.out.2.2.keep y.is⟩
        · have hq : restR (l.take k) o = restR l o := by rw [List.take_of_length_le (by omega)]
          have HO : Hid (n = (restR l o).length ∧ Rd wr B 3 Oc (sortO (restR l o))) := by
            show _ ∧ _
            rw [← hq]
            exact ⟨by rw [H.out.1, sortO_len], H.out.2.2⟩
          have HX := Lib.hid H.out.2.1
          clear hq H
          by_cases hf : 16 ≤ (restR l o).length
          · have hfd : decide ((16 : Int) ≤ (n : Int)) = true := decide_eq_true (by have := HO.out.1; omega)
            have HF := Lib.hid hf
            clear hf
            go_wp2
            go_ret2
            exact giveIs_full HG0.out HF.out (etr HE0.out HX.out)
          · have hfd : decide ((16 : Int) ≤ (n : Int)) = false := decide_eq_false (by have := HO.out.1; omega)
            have HF := Lib.hid hf
            clear hf
            have PA : Hid (Calls Try.prog 21 #[.slice B n d, .agg #[.int .i64 o.train, .int .i64 o.kind, .int .i64 o.until_]] wr fun e w' => ∃ B' d', e = .returned (.slice B' (n + 1) d') ∧ Rd w' B' 3 Oc (sortO (restR l o ++ [o])) ∧ Below wr.heap.size wr w') := by
              have h := put_any B (sortO (restR l o)) d o wr (by rw [sortO_len, ← HO.out.1]; omega) HO.out.2
              rw [insO_len, sortO_len, ← HO.out.1, ← sortO_snoc] at h
              exact h
            go_wp2_with fail
            refine PA.out.mono ?_
            rintro e w5 ⟨B', d', rfl, hr5, hb5⟩
            have HR5 := Lib.hid hr5
            have HB5 := Lib.hid (etr HX.out hb5)
            clear hr5 hb5
            go_wp2
            go_ret2
            exact giveIs_ok HG0.out HF.out (by rw [sortO_len]; have := HO.out.1; simp; omega) HR5.out (etr HE0.out HB5.out)
end Go.Proofs.Ytifeghhapgpolaa
