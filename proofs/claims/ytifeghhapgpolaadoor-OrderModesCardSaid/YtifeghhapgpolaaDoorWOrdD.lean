/- Walks of package order and of its reference: Give. -/
import Derived.Test.YtifeghhapgpolaaDoorWOrdC
set_option linter.unusedVariables false
set_option linter.unusedSimpArgs false
namespace Go.Proofs.YtifeghhapgpolaaDoor
open Go.ChangeShapes Go.WideShapes Go.ChangeAt Go.RowKit
open Sg

/-- What the reference's loop has laid so far. -/
def PutOk (l : List Odr) (o : Odr) (k : Nat) (d : Bool) (ys : List Odr) : Prop := ys.length ≤ k + 1 ∧ ((d = false ∧ ys = l.take k ∧ ∀ a ∈ l.take k, befB o a = false) ∨ (d = true ∧ ys ++ l.drop k = insO o l))
theorem put_start (l : List Odr) (o : Odr) : PutOk l o 0 false [] := ⟨by simp, .inl ⟨rfl, rfl, fun a h => by simp at h⟩⟩
theorem drop_at {l : List Odr} {k : Nat} {p : Odr} (hk : l[k]? = some p) : l.drop k = p :: l.drop (k + 1) := by
  obtain ⟨hl, rfl⟩ := List.getElem?_eq_some_iff.1 hk
  exact List.drop_eq_getElem_cons hl
theorem take_at {l : List Odr} {k : Nat} {p : Odr} (hk : l[k]? = some p) : l.take (k + 1) = l.take k ++ [p] := by
  obtain ⟨hl, rfl⟩ := List.getElem?_eq_some_iff.1 hk
  exact List.take_succ_eq_append_getElem hl
theorem put_later {l : List Odr} {o p : Odr} {k : Nat} {ys : List Odr} (hk : l[k]? = some p) (h : PutOk l o k true ys) : PutOk l o (k + 1) true (ys ++ [p]) := by
  obtain ⟨h1, h2 | ⟨_, h2⟩⟩ := h
  · cases h2.1
  · refine ⟨by simp; omega, .inr ⟨rfl, ?_⟩⟩
    rw [← h2, drop_at hk]; simp
theorem put_not {l : List Odr} {o p : Odr} {k : Nat} {ys : List Odr} (hk : l[k]? = some p) (hb : befB o p = false) (h : PutOk l o k false ys) : PutOk l o (k + 1) false (ys ++ [p]) := by
  obtain ⟨h1, ⟨_, h2, h3⟩ | h2⟩ := h
  · refine ⟨by simp; omega, .inl ⟨rfl, by rw [h2, take_at hk], fun a ha => ?_⟩⟩
    rw [take_at hk] at ha
    rcases List.mem_append.1 ha with ha | ha
    · exact h3 a ha
    · simp at ha; subst ha; exact hb
  · cases h2.1
theorem put_now {l : List Odr} {o p : Odr} {k : Nat} {ys : List Odr} (hk : l[k]? = some p) (hb : befB o p = true) (h : PutOk l o k false ys) : PutOk l o (k + 1) true (ys ++ [o] ++ [p]) := by
  obtain ⟨h1, ⟨_, h2, h3⟩ | h2⟩ := h
  · have hl : k < l.length := (List.getElem?_eq_some_iff.1 hk).1
    refine ⟨?_, .inr ⟨rfl, ?_⟩⟩
    · have : ys.length = k := by rw [h2, List.length_take]; omega
      simp; omega
    · rw [insO_at hk hb h3, h2, drop_at hk]; simp
  · cases h2.1
theorem put_end {l : List Odr} {o : Odr} {k : Nat} {d : Bool} {ys : List Odr} (hk : l.length ≤ k) (h : PutOk l o k d ys) : (if d = true then ys else ys ++ [o]) = insO o l := by
  obtain ⟨_, ⟨rfl, h2, h3⟩ | ⟨rfl, h2⟩⟩ := h
  · rw [List.take_of_length_le hk] at h2 h3
    rw [if_neg (by decide), h2, insO_last h3]
  · rw [if_pos rfl, ← h2, List.drop_of_length_le hk]; simp
theorem od_at {w wr : World} {b off : Nat} {l : List Odr} {k : Nat} {p : Odr} (h : Rd w (some ⟨b, off, none⟩) 3 Oc l) (hb : Ext w wr) (hk : l[k]? = some p) :
    b < wr.heap.size ∧ wr.cell? ⟨b, off + k * 3, none⟩ = some (.int .i64 p.train) ∧ wr.cell? ⟨b, off + k * 3 + 1, none⟩ = some (.int .i64 p.kind) ∧ wr.cell? ⟨b, off + k * 3 + 1 + 1, none⟩ = some (.int .i64 p.until_) := by
  have hl : k < l.length := (List.getElem?_eq_some_iff.1 hk).1
  obtain ⟨b', off', s, e, hs, h1, h2, h3, h4⟩ := rd_od h hb hl
  rw [hk] at hs
  cases hs
  simp only [Option.some.injEq, Addr.mk.injEq] at e
  obtain ⟨rfl, rfl, _⟩ := e
  exact ⟨h1, h2, h3, h4⟩
/-- What the tests of Give say. -/
theorem bad_key {o : Odr} {now : Int} (h : badG o now) : (o.train < 1) ∨ (decide (o.train < 1) = false ∧ 99 < o.train) ∨ (decide (o.train < 1) = false ∧ decide (99 < o.train) = false ∧ evV o.kind = 0) ∨
    (decide (o.train < 1) = false ∧ decide (99 < o.train) = false ∧ (evV o.kind == 0) = false ∧ o.until_ ≤ now) := by
  simp only [decide_eq_false_iff_not, beq_eq_false_iff_ne]
  unfold badG at h
  by_cases h1 : o.train < 1
  · exact .inl h1
  by_cases h2 : 99 < o.train
  · exact .inr (.inl ⟨h1, h2⟩)
  by_cases h3 : evV o.kind = 0
  · exact .inr (.inr (.inl ⟨h1, h2, h3⟩))
  · exact .inr (.inr (.inr ⟨h1, h2, h3, by omega⟩))
theorem good_key {o : Odr} {now : Int} (h : ¬ badG o now) : decide (o.train < 1) = false ∧ decide (99 < o.train) = false ∧ (evV o.kind == 0) = false ∧ decide (o.until_ ≤ now) = false := by
  simp only [decide_eq_false_iff_not, beq_eq_false_iff_ne]
  unfold badG at h
  simp only [not_or] at h
  exact h
theorem kind_key {k : Int} (h : (evV k == 0) = false) : (k == 5) = true ∨ ((k == 5) = false ∧ (k == 6) = true) ∨ ((k == 5) = false ∧ (k == 6) = false ∧ (k == 7) = true) := by
  simp only [beq_eq_false_iff_ne, beq_iff_eq] at *
  rw [Ne, evV_zero] at h
  omega
theorem hit_no {t k : Int} {p : Odr} (h : hitR t k p = false) : (p.train != t) = true ∨ ((p.train != t) = false ∧ (p.kind != k) = true) := by
  unfold hitR at h
  cases h1 : (p.train == t)
  · exact .inl (by rw [bne, h1]; rfl)
  · rw [h1, Bool.true_and] at h
    exact .inr ⟨by rw [bne, h1]; rfl, by rw [bne, h]; rfl⟩
theorem hit_yes {t k : Int} {p : Odr} (h : hitR t k p = true) : (p.train != t) = false ∧ (p.kind != k) = false := by
  unfold hitR at h
  rw [Bool.and_eq_true] at h
  exact ⟨by rw [bne, h.1]; rfl, by rw [bne, h.2]; rfl⟩
theorem ret_vi' {v : Value} {k : IntKind} {a b : Int} (h : a = b) : Ending.returned (.tuple #[v, .int k a]) = .returned (.tuple #[v, .int k b]) := by rw [h]
/-- What Give leaves. -/
def GiveIs (w w' : World) (e : Ending) (l : List Odr) (o : Odr) (now : Int) : Prop :=
  ∃ B d, e = .returned (.tuple #[.slice B (givL l o now).length d, .int .i64 (givE l o now)]) ∧ Rd w' B 3 Oc (givL l o now) ∧ Below w.heap.size w w'
theorem giveIs_bad {w w' : World} {l : List Odr} {o : Odr} {now : Int} (h : badG o now) (hb : Below w.heap.size w w') : GiveIs w w' (.returned (.tuple #[.slice none 0 0, .int .i64 1])) l o now := by
  obtain ⟨e1, e2⟩ := giv_bad (l := l) h
  exact ⟨none, 0, by rw [e1, e2]; rfl, by rw [e2]; exact Rd.nil, hb⟩
theorem giveIs_full {w w' : World} {l : List Odr} {o : Odr} {now : Int} (h : ¬ badG o now) (hl : 16 ≤ (restR l o).length) (hb : Below w.heap.size w w') : GiveIs w w' (.returned (.tuple #[.slice none 0 0, .int .i64 16])) l o now := by
  obtain ⟨e1, e2⟩ := giv_full (l := l) h hl
  exact ⟨none, 0, by rw [e1, e2]; rfl, by rw [e2]; exact Rd.nil, hb⟩
theorem giveIs_ok {w w' : World} {l : List Odr} {o : Odr} {now : Int} {B : Option Addr} {n d : Nat} (h : ¬ badG o now) (hl : ¬ 16 ≤ (restR l o).length) (hn : n = (sortO (restR l o ++ [o])).length) (hr : Rd w' B 3 Oc (sortO (restR l o ++ [o]))) (hb : Below w.heap.size w w') :
    GiveIs w w' (.returned (.tuple #[.slice B n d, .int .i64 0])) l o now := by
  obtain ⟨e1, e2⟩ := giv_ok (l := l) h hl
  subst hn
  exact ⟨B, d, by rw [e1, e2], by rw [e2]; exact hr, hb⟩
set_option maxHeartbeats 8000000 in
set_option maxRecDepth 100000 in
theorem give_any (A : Option Addr) (l : List Odr) (c : Nat) (o : Odr) (now : Int) (w : World) (hm : l.length ≤ 400000) (hr : Rd w A 3 Oc l) :
    Calls Tryd.prog 9 #[.slice A l.length c, .agg #[.int .i64 o.train, .int .i64 o.kind, .int .i64 o.until_], .int .i64 now] w fun e w' => GiveIs w w' e l o now := by
  have HR := Lib.hid hr
  clear hr
  obtain ⟨i0, hi, hz0, hz1, hz2⟩ := info_parts inf_Od
  have HE0 := Lib.hid (eal (Ext.refl w) (.cells #[.int .i64 o.train, .int .i64 o.kind, .int .i64 o.until_] 34))
  by_cases hbad : badG o now
  · have HBD := Lib.hid hbad
    have key := bad_key hbad
    clear hbad
    rcases key with k1 | ⟨k1, k2⟩ | ⟨k1, k2, k3⟩ | ⟨k1, k2, k3, k4⟩
    all_goals
      go_enter Tryd.func9, Tryd.ntmps9
      go_wp2_with (go_at_call 4; refine (event_any _ _).mono ?_; rintro e w' ⟨rfl, rfl⟩)
      go_ret2
      exact giveIs_bad HBD.out HE0.out
  · have HG0 := Lib.hid hbad
    obtain ⟨k1, k2, k3, k4⟩ := good_key hbad
    clear hbad
    have HB := Lib.hid (CellsAt.new (w := w) (cs := #[.int .i64 o.train, .int .i64 o.kind, .int .i64 o.until_]) (t := 34) rfl)
    have HS : Hid ((w.alloc (.cells #[.int .i64 o.train, .int .i64 o.kind, .int .i64 o.until_] 34)).heap.size = w.heap.size + 1) := by show _ = _; simp
    go_enter Tryd.func9, Tryd.ntmps9
    go_wp2_with (go_at_call 4; refine (event_any _ _).mono ?_; rintro e w' ⟨rfl, rfl⟩)
    obtain ⟨w1, hw1⟩ : ∃ w1, w1 = w.alloc (.cells #[.int .i64 o.train, .int .i64 o.kind, .int .i64 o.until_] 34) := ⟨_, rfl⟩
    rw [← hw1] at HE0 HB HS ⊢
    clear hw1
    have hs1 := HS.out
    go_loopg [8, 33] l.length (fun g u i wr => ∃ k : Nat, i = .int .i64 k ∧ k ≤ l.length ∧ g = l.length - k ∧ Hid (Ext w1 wr ∧ OwnL wr w1.heap.size 34 3 Oc u (restR (l.take k) o)))
    case atStart => exact ⟨0, rfl, by omega, rfl, Ext.refl _, OwnL.nil⟩
    case round =>
      obtain ⟨k, rfl, hk, hg, H⟩ := hrel
      have HG := Lib.hid hg
      clear hg
      have hsz := H.out.1.size
      have CB := HB.out.keep H.out.1
      have b0 := CB.2 0 _ rfl
      have b1 := CB.2 1 _ rfl
      have b2 := CB.2 2 _ rfl
      have bz := CB.1
      clear CB
      by_cases hlt : k < l.length
      · obtain ⟨b, off, p, rfl, hs, hbs, c0, c1, c2⟩ := rd_od HR.out (etr HE0.out H.out.1) hlt
        have HT := Lib.hid (restR_take o hs)
        have hlen : (restR (l.take k) o).length ≤ k := by have := restR_len (l.take k) o; simp at this; omega
        clear hs
        cases hh : hitR o.train o.kind p
        · have HQ : Hid (restR (l.take (k + 1)) o = restR (l.take k) o ++ [p]) := by show _ = _; rw [HT.out, hh]; rfl
          have key := hit_no hh
          clear hh
          rcases key with q1 | ⟨q1, q2⟩
          all_goals
            go_wp2_with (at_builtin
                         refine wp_appE (u := w1) Oc_len Oc_one Tryd.underlying29 hi hz0 hz1 hz2 rfl (by decide) rfl rfl rfl ((H.out.2.keep (eal (Ext.refl _) _)).keep (eal (Ext.refl _) _)) (eal (eal H.out.1 _) _) p (wr.heap.size + 1) (by simp [go_sem]) (by exact CellsAt.new (by simp)) (by omega) (by unfold maxLen; omega) ?_
                         intro v1 w2 H1)
            go_roundg (l.length - (k + 1))
            case measure => have := HG.out; omega
            case rel => exact ⟨k + 1, by go_num, by omega, rfl, H1.out.2.1, by rw [HQ.out]; exact H1.out.1⟩
        · have HQ : Hid (restR (l.take (k + 1)) o = restR (l.take k) o) := by show _ = _; rw [HT.out, hh]; simp
          obtain ⟨q1, q2⟩ := hit_yes hh
          clear hh
          go_wp2
          go_roundg (l.length - (k + 1))
          case measure => have := HG.out; omega
          case rel => exact ⟨k + 1, by go_num, by omega, rfl, eal H.out.1 _, by rw [HQ.out]; exact H.out.2.keep (eal (Ext.refl _) _)⟩
      · have hq : restR (l.take k) o = restR l o := by rw [List.take_of_length_le (by omega)]
        have HO : Hid (OwnL wr w1.heap.size 34 3 Oc u8 (restR l o)) := by show OwnL _ _ _ _ _ _ _; rw [← hq]; exact H.out.2
        have HX := Lib.hid H.out.1
        clear hq H
        obtain ⟨B, dd, rfl, hrd, _⟩ := HO.out.rd Oc_len
        clear hrd
        have hll := restR_len l o
        by_cases hf : 16 ≤ (restR l o).length
        · have hfd : decide ((16 : Int) ≤ ((restR l o).length : Int)) = true := decide_eq_true (by omega)
          have HF := Lib.hid hf
          clear hf
          go_wp2
          go_ret2
          exact giveIs_full HG0.out HF.out (etr HE0.out HX.out)
        · have hfd : decide ((16 : Int) ≤ ((restR l o).length : Int)) = false := decide_eq_false (by omega)
          have hl16 : (restR l o).length < 16 := by omega
          have HF := Lib.hid hf
          clear hf
          go_wp2_with (at_builtin
                       refine wp_appE (u := w1) Oc_len Oc_one Tryd.underlying29 hi hz0 hz1 hz2 rfl (by decide) rfl rfl rfl (HO.out.keep (eal (Ext.refl _) _)) (eal HX.out _) o wr.heap.size (by simp [go_sem]) (by exact CellsAt.new rfl) (by omega) (by unfold maxLen; omega) ?_
                       intro v1 w2 H1
                       obtain ⟨g, cp, rfl, hcp, hg2, hown2⟩ := OwnL.form H1.out.1 (by simp)
                       have HOW := Lib.hid hown2
                       have HX2 := Lib.hid H1.out.2.1
                       have HG2 := Lib.hid hg2
                       clear hown2 hg2 H1)
          have hlen2 : (restR l o).length + 1 = (restR l o ++ [o]).length := by simp
          have SA := sorts_any g cp (restR l o ++ [o]) w2 HOW.out (by simp; omega)
          rw [← hlen2] at SA
          refine SA.mono ?_
          rintro e w3 ⟨rfl, hr3, hb3⟩
          have HR3 := Lib.hid hr3
          have HB3 : Hid (Ext w w3) := by
            have h1 := etr HE0.out HX2.out
            have h2 := HG2.out
            have h3 := HE0.out.size
            have : Below w.heap.size w2 w3 := hb3.mono (by omega)
            exact Below.trans h1 this
          clear hr3 hb3 SA
          go_wp2
          go_ret2
          exact giveIs_ok HG0.out HF.out (by rw [sortO_len]; exact hlen2) HR3.out HB3.out
theorem bad_key2 {o : Odr} {now : Int} (h : badG o now) : (o.train < 1) ∨ (decide (o.train < 1) = false ∧ 99 < o.train) ∨ (decide (o.train < 1) = false ∧ decide (99 < o.train) = false ∧ (o.kind != 5) = true ∧ (o.kind != 6) = true ∧ (o.kind != 7) = true) ∨
    (decide (o.train < 1) = false ∧ decide (99 < o.train) = false ∧ (evV o.kind == 0) = false ∧ o.until_ ≤ now) := by
  rcases bad_key h with h | h | ⟨h1, h2, h3⟩ | h
  · exact .inl h
  · exact .inr (.inl h)
  · rw [evV_zero] at h3
    exact .inr (.inr (.inl ⟨h1, h2, by simpa using h3.1, by simpa using h3.2.1, by simpa using h3.2.2⟩))
  · exact .inr (.inr (.inr h))
theorem kind_key2 {k : Int} (h : (evV k == 0) = false) : (k != 5) = false ∨ ((k != 5) = true ∧ (k != 6) = false) ∨ ((k != 5) = true ∧ (k != 6) = true ∧ (k != 7) = false) := by
  rcases kind_key h with h | ⟨h1, h2⟩ | ⟨h1, h2, h3⟩
  · exact .inl (by rw [bne, h]; rfl)
  · exact .inr (.inl ⟨by rw [bne, h1]; rfl, by rw [bne, h2]; rfl⟩)
  · exact .inr (.inr ⟨by rw [bne, h1]; rfl, by rw [bne, h2]; rfl, by rw [bne, h3]; rfl⟩)
theorem sort_next {l : List Odr} {o p : Odr} {k : Nat} (hs : l[k]? = some p) (hh : hitR o.train o.kind p = false) : sortO (restR (l.take (k + 1)) o) = insO p (sortO (restR (l.take k) o)) := by
  rw [restR_take o hs, hh]; exact sortO_snoc _ _
end Go.Proofs.YtifeghhapgpolaaDoor
