/- Walks: what a message does. -/
import Derived.Test.YtbgmknkmfhpgeaaDoorWCabI
import Derived.Test.YtbgmknkmfhpgeaaDoorWCabH
set_option linter.unusedVariables false
set_option linter.unusedSimpArgs false
set_option maxRecDepth 100000
namespace Go.Proofs.YtbgmknkmfhpgeaaDoor
open Go.ChangeShapes Go.WideShapes Go.ChangeAt Go.RowKit
open Sg
theorem take_key (c : Cb) (m : Ms) (now : Int) (rb : Bool) (hrb : rb = recB m.time now 4) :
    ((m.frm != c.peer) = true ∧ takE c m now = 1) ∨ ((m.frm != c.peer) = false ∧ rb = false ∧ takE c m now = 15) ∨ ((m.frm != c.peer) = false ∧ rb = true ∧ decide (m.seq ≤ c.inn) = true ∧ takE c m now = 7) ∨
    ((m.frm != c.peer) = false ∧ rb = true ∧ decide (m.seq ≤ c.inn) = false ∧ takE c m now = 0) := by
  by_cases h1 : m.frm = c.peer
  · have h1' : (m.frm != c.peer) = false := by simpa using h1
    cases hb : rb
    · exact .inr (.inl ⟨h1', rfl, by unfold takE; rw [if_neg (by omega), if_pos (by rw [← hrb, hb])]⟩)
    · by_cases h3 : m.seq ≤ c.inn
      · exact .inr (.inr (.inl ⟨h1', rfl, decide_eq_true h3, by unfold takE; rw [if_neg (by omega), if_neg (by rw [← hrb, hb]; simp), if_pos h3]⟩))
      · exact .inr (.inr (.inr ⟨h1', rfl, decide_eq_false h3, by unfold takE; rw [if_neg (by omega), if_neg (by rw [← hrb, hb]; simp), if_neg h3]⟩))
  · exact .inl ⟨by simpa using h1, by unfold takE; rw [if_pos h1]⟩
def TakR (w0 : World) (c : Cb) (m : Ms) (now : Int) (e : Ending) (w' : World) : Prop := ∃ i h : Int, e = .returned (.tuple #[.agg #[.int .i64 c.peer, .int .i64 c.out, .int .i64 i, .int .i64 h], .int .i64 (takE c m now)]) ∧ (takE c m now = 0 → i = m.seq ∧ h = now) ∧ Below w0.heap.size w0 w'
set_option maxHeartbeats 8000000 in
theorem take_any (c : Cb) (m : Ms) (B K : Option Addr) (cb ck : Nat) (now : Int) (w : World) (it : I64 m.time) (inw : I64 now) : Calls Tryd.prog 34 #[.agg #[.int .i64 c.peer, .int .i64 c.out, .int .i64 c.inn, .int .i64 c.heard], .agg #[.int .i64 m.kind, .int .i64 m.frm, .int .i64 m.to_, .int .i64 m.seq, .int .i64 m.time, .int .i64 m.aseq, .int .i64 m.aen, .slice B m.p.length cb, .slice K m.k.length ck, .int .i64 m.rmin, .int .i64 m.rspeed, .int .i64 m.rmode, .int .i64 m.racc, .bool m.rwhole], .int .i64 now] w fun e w' => TakR w c m now e w' := by
  obtain ⟨rb, hrb⟩ : ∃ d, d = recB m.time now 4 := ⟨_, rfl⟩
  have HRC : Hid (∀ x, Calls Tryd.prog 70 #[.int .i64 m.time, .int .i64 now, .int .i64 4] x fun e w' => e = .returned (.bool rb) ∧ x = w') := fun x => by rw [hrb]; exact recent_any _ _ 4 (by omega) x it inw
  have key := take_key c m now rb hrb
  clear hrb it inw
  obtain ⟨w1, hw⟩ : ∃ w1, w1 = (((w.alloc (.cells #[.int .i64 c.peer, .int .i64 c.out, .int .i64 c.inn, .int .i64 c.heard] 31)).alloc (.cells #[.int .i64 m.kind, .int .i64 m.frm, .int .i64 m.to_, .int .i64 m.seq, .int .i64 m.time, .int .i64 m.aseq, .int .i64 m.aen, .slice B m.p.length cb, .slice K m.k.length ck, .int .i64 m.rmin, .int .i64 m.rspeed, .int .i64 m.rmode, .int .i64 m.racc, .bool m.rwhole] 39)).alloc (.cells #[.int .i64 0, .int .i64 0, .int .i64 0, .int .i64 0] 31)) := ⟨_, rfl⟩
  have HE0 : Hid (Ext w w1) := by rw [hw]; exact eal (eal (eal (Ext.refl w) _) _) _
  have HB : Hid (Own w1 (w.heap.size) [.int .i64 c.peer, .int .i64 c.out, .int .i64 c.inn, .int .i64 c.heard]) := by rw [hw]; exact ((Own.new (w := w) (cs := #[.int .i64 c.peer, .int .i64 c.out, .int .i64 c.inn, .int .i64 c.heard]) (t := 31) (by simp)).alloc _).alloc _
  have HM : Hid (Own w1 (w.heap.size + 1) [.int .i64 m.kind, .int .i64 m.frm, .int .i64 m.to_, .int .i64 m.seq, .int .i64 m.time, .int .i64 m.aseq, .int .i64 m.aen, .slice B m.p.length cb, .slice K m.k.length ck, .int .i64 m.rmin, .int .i64 m.rspeed, .int .i64 m.rmode, .int .i64 m.racc, .bool m.rwhole]) := by rw [hw]; exact (Own.new (w := (w.alloc (.cells #[.int .i64 c.peer, .int .i64 c.out, .int .i64 c.inn, .int .i64 c.heard] 31))) (cs := #[.int .i64 m.kind, .int .i64 m.frm, .int .i64 m.to_, .int .i64 m.seq, .int .i64 m.time, .int .i64 m.aseq, .int .i64 m.aen, .slice B m.p.length cb, .slice K m.k.length ck, .int .i64 m.rmin, .int .i64 m.rspeed, .int .i64 m.rmode, .int .i64 m.racc, .bool m.rwhole]) (t := 39) (by simp)).alloc _
  have HR : Hid (Own w1 (w.heap.size + 1 + 1) [.int .i64 0, .int .i64 0, .int .i64 0, .int .i64 0]) := by rw [hw]; exact Own.new (w := ((w.alloc (.cells #[.int .i64 c.peer, .int .i64 c.out, .int .i64 c.inn, .int .i64 c.heard] 31)).alloc (.cells #[.int .i64 m.kind, .int .i64 m.frm, .int .i64 m.to_, .int .i64 m.seq, .int .i64 m.time, .int .i64 m.aseq, .int .i64 m.aen, .slice B m.p.length cb, .slice K m.k.length ck, .int .i64 m.rmin, .int .i64 m.rspeed, .int .i64 m.rmode, .int .i64 m.racc, .bool m.rwhole] 39))) (cs := #[.int .i64 0, .int .i64 0, .int .i64 0, .int .i64 0]) (t := 31) (by simp)
  go_enter Tryd.func34, Tryd.ntmps34
  go_upto_region 1 with (fail)
  rw [← hw]
  clear hw
  have a0 := HB.out.cells.2 0 _ rfl
  have a1 := HB.out.cells.2 1 _ rfl
  have a2 := HB.out.cells.2 2 _ rfl
  have a3 := HB.out.cells.2 3 _ rfl
  have az := HB.out.cells.1
  have b1 := HM.out.cells.2 1 _ rfl
  have b3 := HM.out.cells.2 3 _ rfl
  have b4 := HM.out.cells.2 4 _ rfl
  have bz := HM.out.cells.1
  rcases key with ⟨q1, hv⟩ | ⟨q1, rfl, hv⟩ | ⟨q1, rfl, q3, hv⟩ | ⟨q1, rfl, q3, hv⟩
  · have HV := Lib.hid hv
    clear hv HRC
    go_wp2_with (first | (refine wp_ldN 31 [.int .i64 c.peer, .int .i64 c.out, .int .i64 c.inn, .int .i64 c.heard] rfl rfl rfl (HB.out).cells Tryd.underlying31 szSes rfl ?_) | (refine wp_stN 31 [.int .i64 c.peer, .int .i64 c.out, .int .i64 c.inn, .int .i64 c.heard] [.int .i64 c.peer, .int .i64 c.out, .int .i64 c.inn, .int .i64 c.heard] rfl rfl rfl (HR.out) rfl szSes rfl (by show (0 + 4 : Nat) ≤ 4; decide) rfl ?_; intro w4 H4))
    refine bodyPost_ret (res_ct (by rfl) (by rfl) (by rfl) H4.out.1.cells Tryd.underlying31 szSes) rfl ?_
    rw [← HV.out]
    exact ⟨_, _, rfl, fun h => by rw [HV.out] at h; omega, eonly HE0.out H4.out.2 (by omega)⟩
  · have HV := Lib.hid hv
    clear hv
    go_wp2_with fail
    refine (HRC.out _).mono ?_
    rintro e w' ⟨rfl, rfl⟩
    clear HRC
    go_wp2_with (first | (refine wp_ldN 31 [.int .i64 c.peer, .int .i64 c.out, .int .i64 c.inn, .int .i64 c.heard] rfl rfl rfl (HB.out).cells Tryd.underlying31 szSes rfl ?_) | (refine wp_stN 31 [.int .i64 c.peer, .int .i64 c.out, .int .i64 c.inn, .int .i64 c.heard] [.int .i64 c.peer, .int .i64 c.out, .int .i64 c.inn, .int .i64 c.heard] rfl rfl rfl (HR.out) rfl szSes rfl (by show (0 + 4 : Nat) ≤ 4; decide) rfl ?_; intro w4 H4))
    refine bodyPost_ret (res_ct (by rfl) (by rfl) (by rfl) H4.out.1.cells Tryd.underlying31 szSes) rfl ?_
    rw [← HV.out]
    exact ⟨_, _, rfl, fun h => by rw [HV.out] at h; omega, eonly HE0.out H4.out.2 (by omega)⟩
  · have HV := Lib.hid hv
    clear hv
    go_wp2_with fail
    refine (HRC.out _).mono ?_
    rintro e w' ⟨rfl, rfl⟩
    clear HRC
    go_wp2_with (first | (refine wp_ldN 31 [.int .i64 c.peer, .int .i64 c.out, .int .i64 c.inn, .int .i64 c.heard] rfl rfl rfl (HB.out).cells Tryd.underlying31 szSes rfl ?_) | (refine wp_stN 31 [.int .i64 c.peer, .int .i64 c.out, .int .i64 c.inn, .int .i64 c.heard] [.int .i64 c.peer, .int .i64 c.out, .int .i64 c.inn, .int .i64 c.heard] rfl rfl rfl (HR.out) rfl szSes rfl (by show (0 + 4 : Nat) ≤ 4; decide) rfl ?_; intro w4 H4))
    refine bodyPost_ret (res_ct (by rfl) (by rfl) (by rfl) H4.out.1.cells Tryd.underlying31 szSes) rfl ?_
    rw [← HV.out]
    exact ⟨_, _, rfl, fun h => by rw [HV.out] at h; omega, eonly HE0.out H4.out.2 (by omega)⟩
  · have HV := Lib.hid hv
    clear hv
    go_wp2_with fail
    refine (HRC.out _).mono ?_
    rintro e w' ⟨rfl, rfl⟩
    clear HRC
    have af := HB.out.2.2
    go_upto_region 8 with (fail)
    obtain ⟨w5, hw5⟩ : ∃ x, x = ((w1.setCell ⟨w.heap.size, 2, none⟩ (.int .i64 m.seq)).setCell ⟨w.heap.size, 3, none⟩ (.int .i64 now)) := ⟨_, rfl⟩
    obtain ⟨O5, N5⟩ := setN_at HB.out 2 [.int .i64 m.seq, .int .i64 now] (ws := [.int .i64 c.peer, .int .i64 c.out, .int .i64 m.seq, .int .i64 now]) rfl (by simp) hw5
    rw [← hw5]
    clear hw5
    have HR5 := Lib.hid (HR.out.only N5 (by omega))
    go_wp2_with (first | (refine wp_ldN 31 [.int .i64 c.peer, .int .i64 c.out, .int .i64 m.seq, .int .i64 now] rfl rfl rfl (O5).cells Tryd.underlying31 szSes rfl ?_) | (refine wp_stN 31 [.int .i64 c.peer, .int .i64 c.out, .int .i64 m.seq, .int .i64 now] [.int .i64 c.peer, .int .i64 c.out, .int .i64 m.seq, .int .i64 now] rfl rfl rfl (HR5.out) rfl szSes rfl (by show (0 + 4 : Nat) ≤ 4; decide) rfl ?_; intro w4 H4))
    refine bodyPost_ret (res_ct (by rfl) (by rfl) (by rfl) H4.out.1.cells Tryd.underlying31 szSes) rfl ?_
    rw [← HV.out]
    exact ⟨_, _, rfl, fun _ => ⟨rfl, rfl⟩, eonly (eonly HE0.out N5 (by omega)) H4.out.2 (by omega)⟩
def effI (m : Ms) (B K : Option Addr) (cb ck : Nat) : Value := if m.kind = 2 then .iface 114 (.agg #[.int .i64 m.aseq, .int .i64 m.aen, .slice B m.p.length cb, .slice K m.k.length ck, .bool false]) else if m.kind = 3 then .iface 114 (.agg #[.int .i64 m.aseq, .int .i64 m.aen, .slice B m.p.length cb, .slice K m.k.length ck, .bool true]) else if m.kind = 4 then .iface 116 (.agg #[]) else if m.kind = 5 then .iface 117 (.agg #[]) else .iface 118 (.agg #[])
theorem effof_any (m : Ms) (B K : Option Addr) (cb ck : Nat) (w : World) : Calls Tryd.prog 35 #[.agg #[.int .i64 m.kind, .int .i64 m.frm, .int .i64 m.to_, .int .i64 m.seq, .int .i64 m.time, .int .i64 m.aseq, .int .i64 m.aen, .slice B m.p.length cb, .slice K m.k.length ck, .int .i64 m.rmin, .int .i64 m.rspeed, .int .i64 m.rmode, .int .i64 m.racc, .bool m.rwhole]] w fun e w' => e = .returned (effI m B K cb ck) ∧ Below w.heap.size w w' := by
  have key : ((m.kind == 2) = true ∧ Hid (effI m B K cb ck = .iface 114 (.agg #[.int .i64 m.aseq, .int .i64 m.aen, .slice B m.p.length cb, .slice K m.k.length ck, .bool false]))) ∨ ((m.kind == 2) = false ∧ (m.kind == 3) = true ∧ Hid (effI m B K cb ck = .iface 114 (.agg #[.int .i64 m.aseq, .int .i64 m.aen, .slice B m.p.length cb, .slice K m.k.length ck, .bool true]))) ∨ ((m.kind == 2) = false ∧ (m.kind == 3) = false ∧ (m.kind == 4) = true ∧ Hid (effI m B K cb ck = .iface 116 (.agg #[]))) ∨
      ((m.kind == 2) = false ∧ (m.kind == 3) = false ∧ (m.kind == 4) = false ∧ (m.kind == 5) = true ∧ Hid (effI m B K cb ck = .iface 117 (.agg #[]))) ∨ ((m.kind == 2) = false ∧ (m.kind == 3) = false ∧ (m.kind == 4) = false ∧ (m.kind == 5) = false ∧ Hid (effI m B K cb ck = .iface 118 (.agg #[]))) := by
    by_cases h2 : m.kind = 2
    · exact .inl ⟨by simpa using h2, if_pos h2⟩
    · by_cases h3 : m.kind = 3
      · exact .inr (.inl ⟨by simpa using h2, by simpa using h3, (if_neg h2).trans (if_pos h3)⟩)
      · by_cases h4 : m.kind = 4
        · exact .inr (.inr (.inl ⟨by simpa using h2, by simpa using h3, by simpa using h4, (if_neg h2).trans ((if_neg h3).trans (if_pos h4))⟩))
        · by_cases h5 : m.kind = 5
          · exact .inr (.inr (.inr (.inl ⟨by simpa using h2, by simpa using h3, by simpa using h4, by simpa using h5, (if_neg h2).trans ((if_neg h3).trans ((if_neg h4).trans (if_pos h5)))⟩)))
          · exact .inr (.inr (.inr (.inr ⟨by simpa using h2, by simpa using h3, by simpa using h4, by simpa using h5, (if_neg h2).trans ((if_neg h3).trans ((if_neg h4).trans (if_neg h5)))⟩)))
  obtain ⟨w1, hw⟩ : ∃ w1, w1 = (w.alloc (.cells #[.int .i64 m.kind, .int .i64 m.frm, .int .i64 m.to_, .int .i64 m.seq, .int .i64 m.time, .int .i64 m.aseq, .int .i64 m.aen, .slice B m.p.length cb, .slice K m.k.length ck, .int .i64 m.rmin, .int .i64 m.rspeed, .int .i64 m.rmode, .int .i64 m.racc, .bool m.rwhole] 39)) := ⟨_, rfl⟩
  have HE0 : Hid (Ext w w1) := by rw [hw]; exact eal (Ext.refl w) _
  have HM : Hid (Own w1 (w.heap.size) [.int .i64 m.kind, .int .i64 m.frm, .int .i64 m.to_, .int .i64 m.seq, .int .i64 m.time, .int .i64 m.aseq, .int .i64 m.aen, .slice B m.p.length cb, .slice K m.k.length ck, .int .i64 m.rmin, .int .i64 m.rspeed, .int .i64 m.rmode, .int .i64 m.racc, .bool m.rwhole]) := by rw [hw]; exact Own.new (w := w) (cs := #[.int .i64 m.kind, .int .i64 m.frm, .int .i64 m.to_, .int .i64 m.seq, .int .i64 m.time, .int .i64 m.aseq, .int .i64 m.aen, .slice B m.p.length cb, .slice K m.k.length ck, .int .i64 m.rmin, .int .i64 m.rspeed, .int .i64 m.rmode, .int .i64 m.racc, .bool m.rwhole]) (t := 39) (by simp)
  go_enter Tryd.func35, Tryd.ntmps35
  go_upto_region 1 with (fail)
  rw [← hw]
  clear hw
  have b0 := HM.out.cells.2 0 _ rfl
  have b5 := HM.out.cells.2 5 _ rfl
  have b6 := HM.out.cells.2 6 _ rfl
  have b7 := HM.out.cells.2 7 _ rfl
  have b8 := HM.out.cells.2 8 _ rfl
  have bz := HM.out.cells.1
  rcases key with ⟨q2, HV⟩ | ⟨q2, q3, HV⟩ | ⟨q2, q3, q4, HV⟩ | ⟨q2, q3, q4, q5, HV⟩ | ⟨q2, q3, q4, q5, HV⟩
  all_goals
    go_wp2
    go_ret
    exact ⟨by rw [HV.out]; rfl, HE0.out⟩
end Go.Proofs.YtbgmknkmfhpgeaaDoor
