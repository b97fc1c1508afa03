/- Walks of chapter 44's laws: Runs. -/
import Derived.Test.YtifeghhapgpolaaWLawH2
set_option linter.unusedVariables false
set_option linter.unusedSimpArgs false
namespace Go.Proofs.Ytifeghhapgpolaa
open Go.ChangeShapes Go.WideShapes Go.ChangeAt Go.RowKit
open Sg

/-- What holds of the list behind each round. -/
def RunsOk (m : List Odr) : Prop := Strict m ∧ m.length ≤ 16
theorem runs_nil : RunsOk [] := ⟨List.Pairwise.nil, by simp⟩
theorem runs_next {m : List Odr} {o : Odr} {now : Int} (h : RunsOk m) : RunsOk (givL m o now) := ⟨give_strict h.1, give_len⟩
theorem strict_at {m : List Odr} {k : Nat} {a b : Odr} (h : Strict m) (h1 : m[k]? = some a) (h2 : m[k + 1]? = some b) : befB a b = true := by
  obtain ⟨l1, rfl⟩ := List.getElem?_eq_some_iff.1 h1
  obtain ⟨l2, rfl⟩ := List.getElem?_eq_some_iff.1 h2
  exact List.pairwise_iff_getElem.1 h k (k + 1) l1 l2 (by omega)
theorem bef_key {a b : Odr} (h : befB a b = true) : decide (b.train < a.train) = false ∧ ((a.train == b.train) = false ∨ ((a.train == b.train) = true ∧ decide (b.kind ≤ a.kind) = false)) := by
  rw [befB_true] at h
  refine ⟨decide_eq_false (by omega), ?_⟩
  by_cases e : a.train = b.train
  · exact .inr ⟨by simp [e], decide_eq_false (by omega)⟩
  · exact .inl (by simp [e])
theorem givE_cases (l : List Odr) (o : Odr) (now : Int) : (givE l o now = 0) ∨ ((givE l o now == 0) = false ∧ ((givE l o now == 16) = false ∨ ((givE l o now == 16) = true ∧ 16 ≤ l.length))) := by
  by_cases h0 : givE l o now = 0
  · exact .inl h0
  · refine .inr ⟨by simp [h0], ?_⟩
    by_cases h16 : givE l o now = 16
    · exact .inr ⟨by simp [h16], give_full h16⟩
    · exact .inl (by simp [h16])
set_option maxHeartbeats 16000000 in
set_option maxRecDepth 100000 in
theorem runs_walk (A : Option Addr) (l : List Odr) (c : Nat) (now : Int) (w : World) (hm : l.length ≤ maxLen) (hr : Rd w A 3 Oc l) :
    Calls Try.prog 6 #[.slice A l.length c, .int .i64 now] w fun e w' => e = .returned (.bool true) ∧ Below w.heap.size w w' := by
  have HR := Lib.hid hr
  clear hr
  by_cases hl : 60 < l.length
  · go_enter Try.func6, Try.ntmps6
    go_wp2_with (go_at_call 7; refine (to_after (alive_any _)).mono ?_; rintro e w' ⟨z, rfl, rfl⟩)
    go_ret
    exact ⟨rfl, z.is⟩
  by_cases h1 : now < 0
  · go_enter Try.func6, Try.ntmps6
    go_wp2_with (go_at_call 7; refine (to_after (alive_any _)).mono ?_; rintro e w' ⟨z, rfl, rfl⟩)
    go_ret
    exact ⟨rfl, z.is⟩
  by_cases h2 : 1000000 < now
  · go_enter Try.func6, Try.ntmps6
    go_wp2_with (go_at_call 7; refine (to_after (alive_any _)).mono ?_; rintro e w' ⟨z, rfl, rfl⟩)
    go_ret
    exact ⟨rfl, z.is⟩
  go_enter Try.func6, Try.ntmps6
  go_wp2
  go_loopg [5, 6] l.length (fun g u i wr => ∃ (k : Nat) (B : Option Addr) (m : List Odr) (d : Nat), u = .slice B m.length d ∧ i = .int .i64 k ∧ k ≤ l.length ∧ g = l.length - k ∧ m.length ≤ 16 ∧ Hid (RunsOk m ∧ Ext w wr ∧ Rd wr B 3 Oc m))
  case atStart => exact ⟨0, none, [], 0, rfl, rfl, by omega, rfl, by simp, runs_nil, Ext.refl _, Rd.nil⟩
  case round =>
    obtain ⟨k, B, m, d, rfl, rfl, hk, hg, hm16, H⟩ := hrel
    have HG := Lib.hid hg
    clear hg
    by_cases hlt : k < l.length
    · obtain ⟨b, off, o, rfl, hs, hbs, c0, c1, c2⟩ := rd_od HR.out H.out.2.1 hlt
      clear hs
      have hw := IntWalk.i64_in (now + (k : Int)) (by omega)
      go_wp2_with fail
      refine (give_any B m d o (now + k) _ (by omega) H.out.2.2).mono ?_
      rintro e w1 ⟨B1, d1, rfl, hr1, hb1⟩
      have HR1 := Lib.hid hr1
      have HX1 := Lib.hid (etr H.out.2.1 hb1)
      have HRm := Lib.hid (H.out.2.2.keep hb1)
      clear hr1 hb1
      -- which list goes on
      have key : ∃ (B2 : Option Addr) (m2 : List Odr) (d2 : Nat), ((givE m o (now + k) == 0) = true ∧ B2 = B1 ∧ m2 = givL m o (now + k) ∧ d2 = d1 ∨ (givE m o (now + k) == 0) = false ∧ B2 = B ∧ m2 = m ∧ d2 = d) ∧ m2.length ≤ 16 ∧ Hid (RunsOk m2 ∧ Rd w1 B2 3 Oc m2) ∧ ((givE m o (now + k) == 16) = false ∨ ((givE m o (now + k) == 16) = true ∧ 16 ≤ m2.length)) := by
        rcases givE_cases m o (now + k) with h0 | ⟨h0, h3⟩
        · exact ⟨B1, _, d1, .inl ⟨by simp [h0], rfl, rfl, rfl⟩, give_len, ⟨runs_next H.out.1, HR1.out⟩, .inl (by simp [h0])⟩
        · exact ⟨B, m, d, .inr ⟨h0, rfl, rfl, rfl⟩, hm16, ⟨H.out.1, HRm.out⟩, h3⟩
      obtain ⟨B2, m2, d2, hwhich, hm2, HM2, hfull⟩ := key
      have hfd : decide ((16 : Int) < (m2.length : Int)) = false := decide_eq_false (by omega)
      clear HR1 HRm
      rcases hwhich with ⟨q, rfl, e2, rfl⟩ | ⟨q, rfl, rfl, rfl⟩
      · go_wp2_with fail
        rw [← e2]
        clear e2
        go_loopg [9] m2.length (fun g2 j wr2 => ∃ p : Nat, j = .int .i64 ((p : Int) + 1) ∧ p ≤ m2.length ∧ g2 = m2.length - p ∧ Hid (Ext w1 wr2))
        case atStart => exact ⟨0, by go_num, by omega, rfl, Ext.refl _⟩
        case round =>
          obtain ⟨p, rfl, hp, hg2, H2⟩ := hrel
          have HG2 := Lib.hid hg2
          clear hg2
          by_cases hlt2 : p + 1 < m2.length
          · obtain ⟨b2, off2, sa, rfl, hsa, _, _⟩ := rd_od HM2.out.2 H2.out (show p < m2.length by omega)
            obtain ⟨sb, hsb⟩ : ∃ s, m2[p + 1]? = some s := ⟨_, List.getElem?_eq_getElem hlt2⟩
            obtain ⟨zb, a0, a1, a2⟩ := od_at HM2.out.2 H2.out hsa
            obtain ⟨_, d0, d1', d2'⟩ := od_at HM2.out.2 H2.out hsb
            obtain ⟨n1, key⟩ := bef_key (strict_at HM2.out.1.1 hsa hsb)
            have hw1 := IntWalk.i64_in (p : Int) (by omega)
            have hw2 := IntWalk.i64_in ((p : Int) + 1 + 1) (by omega)
            have hj1 : (0 : Int) ≤ (p : Int) + 1 := by omega
            have hj2 : (p : Int) + 1 < (m2.length : Int) := by omega
            have hj3 : (p : Int) < (m2.length : Int) := by omega
            have hj4 : ((p : Int) + 1).toNat = p + 1 := by omega
            clear hsa hsb
            rcases key with n2 | ⟨n2, n3⟩
            all_goals
              go_wp2_with fail
              refine wp_region_after (by kernel_rfl) (by kernel_rfl) ?_
              repeat (first | go_big_quiet_step (fail))
              refine wpQuiet_nil ?_
              rintro _ ⟨y, rfl⟩
              go_wp2
              go_roundg (m2.length - (p + 1))
              case measure => have := HG2.out; omega
              case rel => exact ⟨p + 1, by go_num, by omega, rfl, etr H2.out y.is⟩
          · have hj2 : decide ((p : Int) + 1 < (m2.length : Int)) = false := decide_eq_false (by omega)
            rcases hfull with n2 | ⟨n2, n3⟩
            · go_wp2
              go_roundg (l.length - (k + 1))
              case measure => have := HG.out; omega
              case rel => exact ⟨k + 1, B2, m2, d2, rfl, by go_num, by omega, rfl, hm2, HM2.out.1, etr HX1.out H2.out, HM2.out.2.keep H2.out⟩
            · have n4 : decide ((m2.length : Int) < 16) = false := decide_eq_false (by omega)
              go_wp2
              go_roundg (l.length - (k + 1))
              case measure => have := HG.out; omega
              case rel => exact ⟨k + 1, B2, m2, d2, rfl, by go_num, by omega, rfl, hm2, HM2.out.1, etr HX1.out H2.out, HM2.out.2.keep H2.out⟩
      · go_wp2_with fail
        go_loopg [9] m2.length (fun g2 j wr2 => ∃ p : Nat, j = .int .i64 ((p : Int) + 1) ∧ p ≤ m2.length ∧ g2 = m2.length - p ∧ Hid (Ext w1 wr2))
        case atStart => exact ⟨0, by go_num, by omega, rfl, Ext.refl _⟩
        case round =>
          obtain ⟨p, rfl, hp, hg2, H2⟩ := hrel
          have HG2 := Lib.hid hg2
          clear hg2
          by_cases hlt2 : p + 1 < m2.length
          · obtain ⟨b2, off2, sa, rfl, hsa, _, _⟩ := rd_od HM2.out.2 H2.out (show p < m2.length by omega)
            obtain ⟨sb, hsb⟩ : ∃ s, m2[p + 1]? = some s := ⟨_, List.getElem?_eq_getElem hlt2⟩
            obtain ⟨zb, a0, a1, a2⟩ := od_at HM2.out.2 H2.out hsa
            obtain ⟨_, d0, d1', d2'⟩ := od_at HM2.out.2 H2.out hsb
            obtain ⟨n1, key⟩ := bef_key (strict_at HM2.out.1.1 hsa hsb)
            have hw1 := IntWalk.i64_in (p : Int) (by omega)
            have hw2 := IntWalk.i64_in ((p : Int) + 1 + 1) (by omega)
            have hj1 : (0 : Int) ≤ (p : Int) + 1 := by omega
            have hj2 : (p : Int) + 1 < (m2.length : Int) := by omega
            have hj3 : (p : Int) < (m2.length : Int) := by omega
            have hj4 : ((p : Int) + 1).toNat = p + 1 := by omega
            clear hsa hsb
            rcases key with n2 | ⟨n2, n3⟩
            all_goals
              go_wp2_with fail
              refine wp_region_after (by kernel_rfl) (by kernel_rfl) ?_
              repeat (first | go_big_quiet_step (fail))
              refine wpQuiet_nil ?_
              rintro _ ⟨y, rfl⟩
              go_wp2
              go_roundg (m2.length - (p + 1))
              case measure => have := HG2.out; omega
              case rel => exact ⟨p + 1, by go_num, by omega, rfl, etr H2.out y.is⟩
          · have hj2 : decide ((p : Int) + 1 < (m2.length : Int)) = false := decide_eq_false (by omega)
            rcases hfull with n2 | ⟨n2, n3⟩
            · go_wp2
              go_roundg (l.length - (k + 1))
              case measure => have := HG.out; omega
              case rel => exact ⟨k + 1, B2, m2, d2, rfl, by go_num, by omega, rfl, hm2, HM2.out.1, etr HX1.out H2.out, HM2.out.2.keep H2.out⟩
            · have n4 : decide ((m2.length : Int) < 16) = false := decide_eq_false (by omega)
              go_wp2
              go_roundg (l.length - (k + 1))
              case measure => have := HG.out; omega
              case rel => exact ⟨k + 1, B2, m2, d2, rfl, by go_num, by omega, rfl, hm2, HM2.out.1, etr HX1.out H2.out, HM2.out.2.keep H2.out⟩
    · go_wp2_with (go_at_call 7; refine (to_after (alive_any _)).mono ?_; rintro e w' ⟨z, rfl, rfl⟩)
      go_ret
      exact ⟨rfl, eafter H.out.2.1 z⟩
end Go.Proofs.Ytifeghhapgpolaa
