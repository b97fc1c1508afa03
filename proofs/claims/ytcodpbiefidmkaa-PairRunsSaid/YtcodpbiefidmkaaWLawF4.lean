/- Walks of chapter 41's laws: PairRuns. -/
import Derived.Test.YtcodpbiefidmkaaWLawF3
import Derived.Test.YtcodpbiefidmkaaTAct
set_option linter.unusedVariables false
set_option linter.unusedSimpArgs false
namespace Go.Proofs.Ytcodpbiefidmkaa
open Go.ChangeShapes Go.WideShapes Go.ChangeAt Go.RowKit
open Sg

def otherP (a b : Prq) : Prop := ¬ (a.kind = b.kind ∧ a.subject = b.subject)
def ListOk (m : List Prq) : Prop := m.length ≤ 16 ∧ m.Pairwise otherP ∧ ∀ (i : Nat) x, m[i]? = some x → PrqI x
theorem ok_nil : ListOk [] := ⟨by simp, List.Pairwise.nil, fun i x h => by simp at h⟩
theorem ok_sub {l m : List Prq} (h : ListOk l) (hs : m.Sublist l) : ListOk m := ⟨Nat.le_trans hs.length_le h.1, h.2.1.sublist hs, fun i x hx => by
  have hm : x ∈ m := by obtain ⟨hl, rfl⟩ := List.getElem?_eq_some_iff.1 hx; exact List.getElem_mem hl
  obtain ⟨j, hj, rfl⟩ := List.getElem_of_mem (hs.subset hm)
  exact h.2.2 j _ (List.getElem?_eq_getElem hj)⟩
theorem ok_ask {l : List Prq} {p : Prq} (h : ListOk l) (hp : PrqI p) (he : askE l p = 0) : ListOk (askL l p) := by
  have ho : okAsk p := Classical.byContradiction fun hn => by rw [(ask_bad (l := l) hn).1] at he; cases he
  cases hx : idxO p.kind p.subject l with
  | some i => rw [(ask_dup (l := l) ho hx).1] at he; cases he
  | none =>
    by_cases hl : 16 ≤ l.length
    · rw [(ask_full ho hx hl).1] at he; cases he
    · rw [(ask_ok ho hx hl).2]
      refine ⟨by simp; omega, ?_, fun i x hi => ?_⟩
      · rw [List.pairwise_append]
        refine ⟨h.2.1, List.pairwise_singleton _ _, fun a ha b hb => ?_⟩
        simp at hb; subst hb
        intro hs
        have hn : hitP b.kind b.subject a = false := by
          unfold idxO at hx
          rw [List.findIdx?_eq_none_iff] at hx
          exact hx a ha
        rw [hitP_true.2 hs] at hn; cases hn
      · by_cases hi2 : i < l.length
        · rw [List.getElem?_append_left hi2] at hi; exact h.2.2 i x hi
        · have : i = l.length := by have := (List.getElem?_eq_some_iff.1 hi).1; simp at this; omega
          subst this
          rw [List.getElem?_append_right (Nat.le_refl _)] at hi
          simp at hi; subst hi; exact hp
theorem ok_con {l : List Prq} {k s : Int} {by_ : ByteArray} {now : Int} (h : ListOk l) (he : conE l k s by_ now = 0) : ListOk (conL l k s by_ now) := by
  obtain ⟨i, p, _, _, _, _, h5, _⟩ := con_zero he
  rw [h5]; exact ok_sub h (List.eraseIdx_sublist l i)
theorem ok_exp {l : List Prq} (now : Int) (h : ListOk l) : ListOk (expL l now) := ok_sub h List.filter_sublist
set_option maxHeartbeats 8000000 in
theorem apart_any (A : Option Addr) (l : List Prq) (c : Nat) (w : World) (ho : ListOk l) (hr : Rd w A 4 Prc l) :
    Calls Try.prog 17 #[.slice A l.length c] w fun e w' => e = .returned (.bool true) ∧ Below w.heap.size w w' := by
  have HR := Lib.hid hr
  have HO := Lib.hid ho
  have hl := ho.1
  clear hr ho
  go_enter Try.func17, Try.ntmps17
  go_wp2
  go_loopg [3] l.length (fun g i wr => ∃ k : Nat, i = .int .i64 k ∧ k ≤ l.length ∧ g = l.length - k ∧ Hid (Ext w wr))
  case atStart => exact ⟨0, rfl, by omega, rfl, Ext.refl _⟩
  case round =>
    obtain ⟨k, rfl, hk, hg, H⟩ := hrel
    have HG := Lib.hid hg
    clear hg
    by_cases hlt : k < l.length
    · go_wp2
      go_loopg [4] k (fun g i wj => ∃ j : Nat, i = .int .i64 j ∧ j ≤ k ∧ g = k - j ∧ Hid (Ext w wj))
      case atStart => exact ⟨0, rfl, by omega, rfl, H.out⟩
      case round =>
        obtain ⟨j, rfl, hj, hg2, H2⟩ := hrel
        have HG2 := Lib.hid hg2
        clear hg2
        by_cases hlt2 : j < k
        · obtain ⟨b, off, s, rfl, hs, hbs, c0, c1, c2, c3⟩ := rd_pr HR.out H2.out hlt
          obtain ⟨b', off', s', hA, hs', hbs', d0, d1, d2, d3⟩ := rd_pr (k := j) HR.out H2.out (by omega)
          injection hA with hA
          injection hA with hA1 hA2
          subst hA1 hA2
          have key : (s.kind == s'.kind) = false ∨ ((s.kind == s'.kind) = true ∧ (s.subject == s'.subject) = false) := by
            have hp := List.pairwise_iff_getElem.1 HO.out.2.1 j k (by omega) hlt hlt2
            obtain ⟨_, rfl⟩ := List.getElem?_eq_some_iff.1 hs
            obtain ⟨_, rfl⟩ := List.getElem?_eq_some_iff.1 hs'
            unfold otherP at hp
            simp only [beq_iff_eq, beq_eq_false_iff_ne]
            omega
          have hjk : (j : Int) < (k : Int) := by omega
          have hjl : j < l.length := by omega
          clear hs hs'
          rcases key with q1 | ⟨q1, q2⟩
          all_goals go_wp2
          all_goals refine wp_region_after (by kernel_rfl) (by kernel_rfl) ?_
          all_goals repeat (first | go_big_quiet_step (fail))
          all_goals refine wpQuiet_nil ?_
          all_goals rintro _ ⟨y, rfl⟩
          all_goals go_wp2
          all_goals go_roundg (k - (j + 1))
          all_goals first | (case measure => have := HG2.out; omega) | skip
          all_goals exact ⟨j + 1, by go_num, by omega, rfl, etr H2.out y.is⟩
        · have hjk : decide ((j : Int) < (k : Int)) = false := decide_eq_false (by omega)
          go_wp2
          go_roundg (l.length - (k + 1))
          case measure => have := HG.out; omega
          case rel => exact ⟨k + 1, by go_num, by omega, rfl, H2.out⟩
    · go_wp2
      go_ret
      exact ⟨rfl, H.out⟩
set_option maxRecDepth 100000 in
set_option maxHeartbeats 16000000 in
theorem runs_walk (A : Option Addr) (acts : List Actn) (c : Nat) (w : World) (hm : acts.length ≤ maxLen) (hI : ∀ (i : Nat) x, acts[i]? = some x → ActnI x) (hr : Rd w A 5 Actc acts) :
    Calls Try.prog 7 #[.slice A acts.length c] w fun e w' => e = .returned (.bool true) ∧ Below w.heap.size w w' := by
  have HR := Lib.hid hr
  have HI := Lib.hid hI
  unfold maxLen at hm
  clear hr hI
  by_cases hl : acts.length ≤ 60
  · go_enter Try.func7, Try.ntmps7
    go_wp2
    go_loopg [3, 4] acts.length (fun g u ii wr => ∃ (k : Nat) (A1 : Option Addr) (cap1 : Nat) (m : List Prq), ii = .int .i64 k ∧ u = .slice A1 m.length cap1 ∧ k ≤ acts.length ∧ g = acts.length - k ∧ Hid (Ext w wr ∧ Rd wr A1 4 Prc m ∧ m.length ≤ cap1 ∧ ListOk m))
    case atStart => exact ⟨0, none, 0, [], rfl, rfl, by omega, rfl, Ext.refl _, Rd.nil, by simp, ok_nil⟩
    case round =>
      obtain ⟨k, A1, cap1, m, rfl, rfl, hk, hg, H⟩ := hrel
      have HG := Lib.hid hg
      clear hg
      have HX := Lib.hid H.out.1
      have HR1 := Lib.hid H.out.2.1
      have hc1 := H.out.2.2.1
      have HS := Lib.hid H.out.2.2.2
      have hml := HS.out.1
      clear H
      by_cases hlt : k < acts.length
      · obtain ⟨b, off, a, rfl, ha, hbs, c0, c1, c2, c3, c4⟩ := rd_act HR.out HX.out hlt
        have HAI := Lib.hid (HI.out k a ha)
        have HPI : Hid (PrqI ⟨a.kind, a.subject, a.now, a.by_⟩) := ⟨HAI.out.2.1, HAI.out.2.2.1, HAI.out.2.2.2.1, HAI.out.2.2.2.2⟩
        clear ha
        have hal := HAI.out.2.2.2.2
        unfold maxLen at hal
        by_cases hby : (a.by_.size : Int) ≤ 200
        · by_cases k0 : a.call = 0
          · have k0' : (a.call == 0) = true := by rw [beq_iff_eq]; exact k0
            clear k0
            go_wp2_with fail
            refine (ask_any A1 m cap1 ⟨a.kind, a.subject, a.now, a.by_⟩ _ (by omega) HPI.out (HR1.out.keep (eal (Ext.refl _) _))).mono ?_
            rintro e w2 ⟨v2, rfl, ho2, hb2⟩
            obtain ⟨A2, cap2, rfl, hr2, hm2, hcp2⟩ := ho2.rdc Prc_len
            have HR2 := Lib.hid hr2
            have HM2 := Lib.hid hm2
            have HB2 := Lib.hid (etr (eal HX.out (.cells #[.int .i64 a.call, .int .i64 a.kind, .int .i64 a.subject, .int .i64 a.now, .string a.by_] 40)) hb2)
            have HE2 := Lib.hid (etr (eal (Ext.refl wr) (.cells #[.int .i64 a.call, .int .i64 a.kind, .int .i64 a.subject, .int .i64 a.now, .string a.by_] 40)) hb2)
            have BXa := (CellsAt.new (w := wr) (cs := (Actc a).toArray) (t := 40) rfl).keep hb2
            have bza := BXa.1
            have xa0 := BXa.2 0 _ rfl
            have xa1 := BXa.2 1 _ rfl
            have xa2 := BXa.2 2 _ rfl
            have xa3 := BXa.2 3 _ rfl
            have xa4 := BXa.2 4 _ rfl
            clear BXa
            clear ho2 hr2 hm2 hb2
            go_wp2_with fail
            refine (rask_any A1 m cap1 ⟨a.kind, a.subject, a.now, a.by_⟩ _ (by omega) HPI.out (HR1.out.keep HE2.out)).mono ?_
            rintro e w3 ⟨v3, rfl, ho3, hb3⟩
            obtain ⟨A3, cap3, rfl, hr3, _⟩ := ho3.rd Prc_len
            have HR3 := Lib.hid hr3
            have HB3 := Lib.hid hb3
            clear ho3 hr3 hb3
            go_wp2_with fail
            refine (to_after (same_pr A2 A3 (askL m ⟨a.kind, a.subject, a.now, a.by_⟩) (askL m ⟨a.kind, a.subject, a.now, a.by_⟩) cap2 cap3 _ HM2.out HM2.out (HR2.out.keep HB3.out) HR3.out)).mono ?_
            rintro e w' ⟨y4, rfl, rfl⟩
            rw [sml_self]
            have HX4 := Lib.hid (etr (etr HB2.out HB3.out) y4.is)
            have HE4 := Lib.hid (etr (etr HE2.out HB3.out) y4.is)
            have HR24 := Lib.hid ((HR2.out.keep HB3.out).keep y4.is)
            by_cases he : askE m ⟨a.kind, a.subject, a.now, a.by_⟩ = 0
            · have HK := Lib.hid (ok_ask HS.out HPI.out he)
              have hkl := HK.out.1
              rw [he]
              clear he
              go_wp2_with fail
              refine (to_after (apart_any A2 (askL m ⟨a.kind, a.subject, a.now, a.by_⟩) cap2 _ HK.out HR24.out)).mono ?_
              rintro e w' ⟨y9, rfl, rfl⟩
              go_wp2_with fail
              go_roundg (acts.length - (k + 1))
              case measure => have := HG.out; omega
              case rel => exact ⟨k + 1, A2, cap2, (askL m ⟨a.kind, a.subject, a.now, a.by_⟩), by go_num, rfl, by omega, rfl, etr (HX4.out) y9.is, (HR24.out).keep y9.is, hcp2, HK.out⟩
            · have he' : (askE m ⟨a.kind, a.subject, a.now, a.by_⟩ == 0) = false := by rw [beq_eq_false_iff_ne]; exact he
              clear he
              go_wp2_with fail
              refine (to_after (apart_any A1 m cap1 _ HS.out (HR1.out.keep HE4.out))).mono ?_
              rintro e w' ⟨y9, rfl, rfl⟩
              go_wp2_with fail
              go_roundg (acts.length - (k + 1))
              case measure => have := HG.out; omega
              case rel => exact ⟨k + 1, A1, cap1, m, by go_num, rfl, by omega, rfl, etr (HX4.out) y9.is, ((HR1.out.keep HE4.out)).keep y9.is, hc1, HS.out⟩
          · have k0' : (a.call == 0) = false := by rw [beq_eq_false_iff_ne]; exact k0
            clear k0
            by_cases k1 : a.call = 1
            · have k1' : (a.call == 1) = true := by rw [beq_iff_eq]; exact k1
              clear k1
              go_wp2_with fail
              refine (confirm_any A1 m cap1 a.kind a.subject a.by_ a.now _ (by omega) hc1 HAI.out.2.2.2.1 HAI.out.2.2.2.2 HS.out.2.2 (HR1.out.keep (eal (Ext.refl _) _))).mono ?_
              rintro e w2 ⟨v2, rfl, ho2, hb2⟩
              obtain ⟨A2, cap2, rfl, hr2, hm2, hcp2⟩ := ho2.rdc Prc_len
              have HR2 := Lib.hid hr2
              have HM2 := Lib.hid hm2
              have HB2 := Lib.hid (etr (eal HX.out (.cells #[.int .i64 a.call, .int .i64 a.kind, .int .i64 a.subject, .int .i64 a.now, .string a.by_] 40)) hb2)
              have HE2 := Lib.hid (etr (eal (Ext.refl wr) (.cells #[.int .i64 a.call, .int .i64 a.kind, .int .i64 a.subject, .int .i64 a.now, .string a.by_] 40)) hb2)
              have BXa := (CellsAt.new (w := wr) (cs := (Actc a).toArray) (t := 40) rfl).keep hb2
              have bza := BXa.1
              have xa0 := BXa.2 0 _ rfl
              have xa1 := BXa.2 1 _ rfl
              have xa2 := BXa.2 2 _ rfl
              have xa3 := BXa.2 3 _ rfl
              have xa4 := BXa.2 4 _ rfl
              clear BXa
              have bza1 : wr.heap.size < w2.heap.size + 1 := by omega
              clear ho2 hr2 hm2 hb2
              go_wp2_with fail
              refine (rconfirm_any A1 m cap1 a.kind a.subject a.by_ a.now _ (by omega) HAI.out.2.2.2.1 HAI.out.2.2.2.2 HS.out.2.2 (HR1.out.keep (eal HE2.out _))).mono ?_
              rintro e w3 ⟨v3, rfl, ho3, hb3⟩
              obtain ⟨A3, cap3, rfl, hr3, _⟩ := ho3.rd Prc_len
              have HR3 := Lib.hid hr3
              have HB3 := Lib.hid (etr (eal (Ext.refl w2) _) hb3)
              clear ho3 hr3 hb3
              go_wp2_with fail
              refine (to_after (same_pr A2 A3 (conL m a.kind a.subject a.by_ a.now) (conL m a.kind a.subject a.by_ a.now) cap2 cap3 _ HM2.out HM2.out (HR2.out.keep (eal HB3.out _)) (HR3.out.keep (eal (Ext.refl _) _)))).mono ?_
              rintro e w' ⟨y4, rfl, rfl⟩
              rw [sml_self]
              have HX4 := Lib.hid (etr (eal (etr HB2.out HB3.out) _) y4.is)
              have HE4 := Lib.hid (etr (eal (etr HE2.out HB3.out) _) y4.is)
              have HR24 := Lib.hid ((HR2.out.keep (eal HB3.out _)).keep y4.is)
              by_cases he : conE m a.kind a.subject a.by_ a.now = 0
              · have HK := Lib.hid (ok_con HS.out he)
                have hkl := HK.out.1
                rw [he]
                clear he
                go_wp2_with fail
                refine (to_after (apart_any A2 (conL m a.kind a.subject a.by_ a.now) cap2 _ HK.out HR24.out)).mono ?_
                rintro e w' ⟨y9, rfl, rfl⟩
                go_wp2_with fail
                go_roundg (acts.length - (k + 1))
                case measure => have := HG.out; omega
                case rel => exact ⟨k + 1, A2, cap2, (conL m a.kind a.subject a.by_ a.now), by go_num, rfl, by omega, rfl, etr (HX4.out) y9.is, (HR24.out).keep y9.is, hcp2, HK.out⟩
              · have he' : (conE m a.kind a.subject a.by_ a.now == 0) = false := by rw [beq_eq_false_iff_ne]; exact he
                clear he
                go_wp2_with fail
                refine (to_after (apart_any A1 m cap1 _ HS.out (HR1.out.keep HE4.out))).mono ?_
                rintro e w' ⟨y9, rfl, rfl⟩
                go_wp2_with fail
                go_roundg (acts.length - (k + 1))
                case measure => have := HG.out; omega
                case rel => exact ⟨k + 1, A1, cap1, m, by go_num, rfl, by omega, rfl, etr (HX4.out) y9.is, ((HR1.out.keep HE4.out)).keep y9.is, hc1, HS.out⟩
            · have k1' : (a.call == 1) = false := by rw [beq_eq_false_iff_ne]; exact k1
              clear k1
              by_cases k2 : a.call = 2
              · have k2' : (a.call == 2) = true := by rw [beq_iff_eq]; exact k2
                clear k2
                go_wp2_with fail
                refine (expire_any A1 m cap1 a.now _ (by omega) HAI.out.2.2.2.1 HS.out.2.2 (HR1.out.keep (eal (Ext.refl _) _))).mono ?_
                rintro e w2 ⟨v2, rfl, ho2, hb2⟩
                obtain ⟨A2, cap2, rfl, hr2, hm2, hcp2⟩ := ho2.rdc Prc_len
                have HR2 := Lib.hid hr2
                have HX2 := Lib.hid (etr (eal HX.out _) hb2)
                have HK := Lib.hid (ok_exp a.now HS.out)
                have hkl := HK.out.1
                clear ho2 hr2 hm2 hb2
                go_wp2_with fail
                refine (to_after (apart_any A2 (expL m a.now) cap2 _ HK.out HR2.out)).mono ?_
                rintro e w' ⟨y9, rfl, rfl⟩
                go_wp2_with fail
                go_roundg (acts.length - (k + 1))
                case measure => have := HG.out; omega
                case rel => exact ⟨k + 1, A2, cap2, (expL m a.now), by go_num, rfl, by omega, rfl, etr (HX2.out) y9.is, (HR2.out).keep y9.is, hcp2, HK.out⟩
              · have k2' : (a.call == 2) = false := by rw [beq_eq_false_iff_ne]; exact k2
                clear k2
                go_wp2_with fail
                refine (to_after (apart_any A1 m cap1 _ HS.out (HR1.out.keep (eal (Ext.refl _) _)))).mono ?_
                rintro e w' ⟨y9, rfl, rfl⟩
                go_wp2_with fail
                go_roundg (acts.length - (k + 1))
                case measure => have := HG.out; omega
                case rel => exact ⟨k + 1, A1, cap1, m, by go_num, rfl, by omega, rfl, etr (eal HX.out _) y9.is, ((HR1.out.keep (eal (Ext.refl _) _))).keep y9.is, hc1, HS.out⟩
        · have hby' : (200 : Int) < (a.by_.size : Int) := by omega
          clear hby
          go_wp2_with fail
          refine (to_after (alive_any _)).mono ?_
          rintro e w' ⟨y2, rfl, rfl⟩
          go_wp2_with fail
          go_ret
          exact ⟨rfl, etr (eal HX.out _) y2.is⟩
      · go_wp2_with fail
        refine (to_after (alive_any _)).mono ?_
        rintro e w' ⟨y2, rfl, rfl⟩
        go_wp2_with fail
        go_ret
        exact ⟨rfl, etr HX.out y2.is⟩
  · go_enter Try.func7, Try.ntmps7
    go_wp2_with (go_at_call 9; refine (to_after (alive_any _)).mono ?_; rintro e w' ⟨y2, rfl, rfl⟩)
    go_ret
    exact ⟨rfl, y2.is⟩
end Go.Proofs.Ytcodpbiefidmkaa
