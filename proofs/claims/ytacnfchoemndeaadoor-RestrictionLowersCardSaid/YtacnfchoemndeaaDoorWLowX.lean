/- Walk of the law RestrictionLowers, in one text. -/
import Derived.Test.YtacnfchoemndeaaDoorWChkG
import Derived.Test.YtacnfchoemndeaaDoorWProfC
set_option linter.unusedVariables false
set_option linter.unusedSimpArgs false
set_option maxRecDepth 100000
namespace Go.Proofs.YtacnfchoemndeaaDoor
open Go.ChangeShapes Go.WideShapes Go.ChangeAt Go.RowKit
open Sg

section
variable {H : Type} {enc : TypeId × Value → H} {w : World} {base b0 : Nat} {spare : Nat → Bool} {held : Bool} {r : Reach} {v : Value} {d : DataW H} {ps : List MemPlace}
theorem leaf_sgm {c : Value} (h : Leaf enc Tryd.prog w base spare held 43 c) : ∃ A xs cap, c = .slice A (List.length xs) cap ∧ Rd w A 4 Sgc xs ∧ xs.length ≤ maxLen ∧ xs.length ≤ cap ∧ ∀ (i : Nat) (x : Sgm), xs[i]? = some x → True :=
  leaf_slice (n := 3) (en := Sgc) (Q := fun _ => True) Tryd.underlying43 (l := [3, 3, 3, 3]) (by kernel_rfl) (by decide) (fun cs hl => by
    obtain ⟨c0, r0, rfl, l0, hl⟩ := leaves_cons hl
    obtain ⟨c1, r1, rfl, l1, hl⟩ := leaves_cons hl
    obtain ⟨c2, r2, rfl, l2, hl⟩ := leaves_cons hl
    obtain ⟨c3, r3, rfl, l3, hl⟩ := leaves_cons hl
    obtain rfl := leaves_nil hl
    obtain ⟨v0, rfl, _⟩ := leaf_i64 Tryd.underlying3 l0
    obtain ⟨v1, rfl, _⟩ := leaf_i64 Tryd.underlying3 l1
    obtain ⟨v2, rfl, _⟩ := leaf_i64 Tryd.underlying3 l2
    obtain ⟨v3, rfl, _⟩ := leaf_i64 Tryd.underlying3 l3
    exact ⟨⟨v0, v1, v2, v3⟩, rfl, trivial⟩) h
theorem open_case (hv : Value.okWide Tryd.prog w r b0 45 v) (h : DataW.Trod enc Tryd.prog w base spare held 45 v d ps) : ∃ A way c o B p cp, v = .agg #[.slice A (List.length way) c, .int .i64 o, .slice B (List.length p) cp] ∧ Rd w A 3 Stc way ∧ way.length ≤ maxLen ∧ way.length ≤ c ∧ Rd w B 4 Sgc p ∧ p.length ≤ maxLen ∧ p.length ≤ cp := by
  obtain ⟨cs, rfl, hL⟩ := open_flat (n := 3) (l := [42, 3, 43]) Tryd.underlying45 (by kernel_rfl) hv h
  obtain ⟨c0, r0, rfl, l0, hL⟩ := leaves_cons hL
  obtain ⟨c1, r1, rfl, l1, hL⟩ := leaves_cons hL
  obtain ⟨c2, r2, rfl, l2, hL⟩ := leaves_cons hL
  obtain rfl := leaves_nil hL
  obtain ⟨A, way, c, rfl, g1, g2, g3, _⟩ := leaf_sts l0
  obtain ⟨o, rfl, _⟩ := leaf_i64 Tryd.underlying3 l1
  obtain ⟨B, p, cp, rfl, k1, k2, k3, _⟩ := leaf_sgm l2
  exact ⟨A, way, c, o, B, p, cp, rfl, g1, g2, g3, k1, k2, k3⟩
end
abbrev CaseAt (w : World) (b : Nat) (A : Option Addr) (way : List Stp) (c : Nat) (o : Int) (B : Option Addr) (p : List Sgm) (cp : Nat) : Prop := CellsAt w b [.slice A way.length c, .int .i64 o, .slice B p.length cp]
theorem caseAt_cells {w : World} {b : Nat} {A : Option Addr} {way : List Stp} {c : Nat} {o : Int} {B : Option Addr} {p : List Sgm} {cp : Nat} (h : CaseAt w b A way c o B p cp) : b < w.heap.size ∧ w.cell? ⟨b, 0, none⟩ = some (.slice A way.length c) ∧ w.cell? ⟨b, 1, none⟩ = some (.int .i64 o) ∧ w.cell? ⟨b, 2, none⟩ = some (.slice B p.length cp) := ⟨h.1, h.2 0 _ rfl, h.2 1 _ rfl, h.2 2 _ rfl⟩
set_option maxHeartbeats 32000000 in
theorem allowed_any (L : Lay) (Al : Option Addr) (l : List Rst) (cl : Nat) (A : Option Addr) (way : List Stp) (c : Nat) (c0 : Int) (B : Option Addr) (p : List Sgm) (cp : Nat) (yy : Int) (w : World) (hL : LayOk w L) (hE : ElsOk L.els) (hl : Rd w Al 6 Rsc l) (hlm : l.length ≤ maxLen)
    (hr : Rd w A 3 Stc way) (hW : WayIn L.els way) (hwl : way.length ≤ 64) (hc1 : -1073741824 ≤ c0) (hc2 : c0 ≤ 1073741824) :
    Calls Tryd.prog 24 #[.agg #[.string L.name, .slice L.aS L.secs.length L.cS, .slice L.aE L.els.length L.cE, .slice L.aJ L.jts.length L.cJ, .slice L.aG L.sgs.length L.cG, .slice L.aB L.bals.length L.cB], .slice Al l.length cl, .agg #[.slice A way.length c, .int .i64 c0, .slice B p.length cp], .int .i64 yy] w fun e w' => e = .returned (.int .i64 (alV L.els l yy way c0)) ∧ Below w.heap.size w w' := by
  have HL := Lib.hid hL
  have HE := Lib.hid hE
  have HR := Lib.hid hr
  have HRL := Lib.hid hl
  have HWI := Lib.hid hW
  have HK := Lib.hid (And.intro hc1 hc2)
  clear hL hE hr hl hW hc1 hc2
  unfold maxLen at hlm
  go_enter Tryd.func24, Tryd.ntmps24
  go_wp2
  go_loopg [9, 10, 22] way.length (fun g x9 x10 ix wr => ∃ (k : Nat) (v : Int) (c1 : Int), ix = .int .i64 k ∧ x9 = .int .i64 v ∧ x10 = .int .i64 c1 ∧ k ≤ way.length ∧ g = way.length - k ∧ Hid (Ext w wr ∧ LayAt wr w.heap.size L ∧ c1 = begF L.els way c0 k ∧ v = alTo L.els l yy way c0 k))
  case atStart => exact ⟨0, 10000, c0, rfl, rfl, rfl, by omega, by omega, eal (eal (Ext.refl _) _) _, CellsAt.keep (CellsAt.new rfl) (eal (Ext.refl _) _), rfl, rfl⟩
  case round =>
    obtain ⟨k, v, c1, rfl, rfl, rfl, hk, hg, H⟩ := hrel
    have HG := Lib.hid hg
    clear hg
    have hb := beg_bound (c := c0) HE.out HWI.out hk
    rw [← H.out.2.2.1] at hb
    have hk3 := HK.out.1
    have hk4 := HK.out.2
    have hb3 : -1073741824 ≤ c1 := by omega
    have hb4 : c1 ≤ 1073741824 + 64000000 := by omega
    clear hb hk3 hk4
    by_cases hlt : k < way.length
    · obtain ⟨bw, ow, s, rfl, hs, hbs, s0, s1, s2⟩ := rd_st HR.out H.out.1 hlt
      have HS := Lib.hid hs
      obtain ⟨kE, x, hel, hx, hxe⟩ := has_at (HWI.out k s hs)
      have HXE := Lib.hid hxe
      have HX := Lib.hid hx
      have HIN := Lib.hid (HWI.out k s hs)
      have hXB := HE.out kE x hx
      have hx1 := hXB.2.2.1
      have hx2 := hXB.2.2.2
      have hmE := HL.out.lE
      unfold maxLen at hmE
      have hkE := (List.getElem?_eq_some_iff.1 hx).1
      clear hs hx hxe hXB
      obtain ⟨sel, sin, sout⟩ := s
      obtain rfl : sel = (kE : Int) := hel
      simp only [] at s0 s1 s2 HS HXE HIN
      have HB : Hid (c1 + x.len = begF L.els way c0 (k + 1)) := by
        show _ = _
        rw [begF_succ HS.out, ← H.out.2.2.1, HXE.out]
      have hc1w : IntKind.i64.wrap (c1 + x.len) = c1 + x.len := IntWalk.i64_in _ (by omega)
      go_wp2
      obtain ⟨w1', hw1⟩ : ∃ w1', w1' = wr.alloc (.cells #[.int .i64 kE, .int .i64 sin, .int .i64 sout] 58) := ⟨_, rfl⟩
      rw [← hw1]
      have E1' : Hid (Ext w w1') := hw1 ▸ eal H.out.1 _
      have L1' : Hid (LayAt w1' w.heap.size L) := hw1 ▸ H.out.2.1.keep (eal (Ext.refl _) _)
      have B1' : Hid (CellsAt w1' wr.heap.size [.int .i64 kE, .int .i64 sin, .int .i64 sout]) := hw1 ▸ CellsAt.new rfl
      clear hw1 s0 s1 s2 hbs
      go_loopg [9, 28] l.length (fun g x9 ix wr2 => ∃ (j : Nat) (u : Int), ix = .int .i64 j ∧ x9 = .int .i64 u ∧ j ≤ l.length ∧ g = l.length - j ∧ Hid (Ext w1' wr2 ∧ u = alS L.els ⟨kE, sin, sout⟩ c1 yy (l.take j) v))
      case atStart => exact ⟨0, v, rfl, rfl, by omega, by omega, Ext.refl _, rfl⟩
      case round =>
        obtain ⟨j, u, rfl, rfl, hj, hg2, H2⟩ := hrel
        have HG2 := Lib.hid hg2
        clear hg2
        have E3 : Hid (Ext w wr) := etr E1'.out H2.out.1
        obtain ⟨l0, a0, a1, a2, a3, a4, a5⟩ := layAt_cells (L1'.out.keep H2.out.1)
        have T0 := (B1'.out.keep H2.out.1).1
        have t0 := (B1'.out.keep H2.out.1).2 0 _ rfl
        have t1 := (B1'.out.keep H2.out.1).2 1 _ rfl
        have t2 := (B1'.out.keep H2.out.1).2 2 _ rfl
        have l1 := lt_up l0
        have T1 := lt_up T0
        by_cases hlt2 : j < l.length
        · obtain ⟨b, off, r, rfl, hs, hbs, d0, d1, d2, d3, d4, d5⟩ := rd_rs HRL.out E3.out hlt2
          have HT := alS_take (els := L.els) (st := ⟨kE, sin, sout⟩) (c := c1) (y := yy) (v := v) hs
          rw [← H2.out.2] at HT
          have HTT := Lib.hid HT
          clear hs HT
          rcases Bool.eq_false_or_eq_true r.act with hact | hact
          rotate_left
          · rw [hact] at d5
            have HN : Hid (u = alS L.els ⟨kE, sin, sout⟩ c1 yy (l.take (j + 1)) v) := by
              show _ = _
              rw [HTT.out, if_neg (fun h => by have := h.1.1; rw [hact] at this; cases this)]
            have HAC := Lib.hid hact
            clear hact
            go_wp2
            go_roundg (l.length - (j + 1))
            case measure => have := HG2.out; omega
            case rel => exact ⟨j + 1, u, by go_num, rfl, by omega, rfl, eal H2.out.1 _, HN.out⟩
          · by_cases hee : r.el = (kE : Int)
            rotate_left
            · have q1 : (r.el == (kE : Int)) = false := by simpa using hee
              have HN : Hid (u = alS L.els ⟨kE, sin, sout⟩ c1 yy (l.take (j + 1)) v) := by
                show _ = _
                rw [HTT.out, if_neg (fun h => hee h.2.1)]
              rw [hact] at d5
              clear hee hact
              go_wp2
              go_roundg (l.length - (j + 1))
              case measure => have := HG2.out; omega
              case rel => exact ⟨j + 1, u, by go_num, rfl, by omega, rfl, eal H2.out.1 _, HN.out⟩
            · have q1 : (r.el == (kE : Int)) = true := by simpa using hee
              have HCK : Hid (∀ w', Ext w w' → Calls Tryd.prog 12 #[.agg #[.string L.name, .slice L.aS L.secs.length L.cS, .slice L.aE L.els.length L.cE, .slice L.aJ L.jts.length L.cJ, .slice L.aG L.sgs.length L.cG, .slice L.aB L.bals.length L.cB], (.agg #[.int .i64 r.id, .int .i64 r.el, .int .i64 r.from_, .int .i64 r.to_, .int .i64 r.speed, .bool true])] w' fun e w'' => e = .returned (.int .i64 (chkE L.els r)) ∧ Below w'.heap.size w' w'') := fun w' h => by
                have := chk_any L r w' (HL.out.keep h)
                rw [hact] at this
                exact this
              rw [hact] at d5
              have HAC := Lib.hid hact
              have HEE := Lib.hid hee
              clear hact hee
              have E4 : Hid (Ext wr (wr.alloc (.cells #[.int .i64 r.id, .int .i64 r.el, .int .i64 r.from_, .int .i64 r.to_, .int .i64 r.speed, .bool true] 31))) := eal (Ext.refl _) _
              by_cases hok : OkR L.els r
              rotate_left
              · have HCE : Hid (chkE L.els r = 1) := by
                  show _ = _
                  unfold chkE
                  rw [if_neg hok]
                have HN : Hid (u = alS L.els ⟨kE, sin, sout⟩ c1 yy (l.take (j + 1)) v) := by
                  show _ = _
                  rw [HTT.out, if_neg (fun h => hok h.1.2)]
                clear hok
                go_wp2_with (go_at_call 12; refine (to_after (HCK.out _ (etr E3.out E4.out))).mono ?_; rw [HCE.out]; rintro e w' ⟨y1, rfl, rfl⟩)
                go_roundg (l.length - (j + 1))
                case measure => have := HG2.out; omega
                case rel => exact ⟨j + 1, u, by go_num, rfl, by omega, rfl, etr (etr H2.out.1 E4.out) (After.is _), HN.out⟩
              · have HCE : Hid (chkE L.els r = 0) := chkE_zero.2 hok
                have HOK := Lib.hid hok
                clear hok
                obtain ⟨pa, hpa⟩ : ∃ pa, pa = partA L.els ⟨kE, sin, sout⟩ c1 r := ⟨_, rfl⟩
                obtain ⟨pz, hpz⟩ : ∃ pz, pz = partZ L.els ⟨kE, sin, sout⟩ c1 r := ⟨_, rfl⟩
                have HPT : Hid (∀ w', Ext w w' → Calls Tryd.prog 39 #[.agg #[.string L.name, .slice L.aS L.secs.length L.cS, .slice L.aE L.els.length L.cE, .slice L.aJ L.jts.length L.cJ, .slice L.aG L.sgs.length L.cG, .slice L.aB L.bals.length L.cB], .agg #[.int .i64 kE, .int .i64 sin, .int .i64 sout], .int .i64 c1, (.agg #[.int .i64 r.id, .int .i64 r.el, .int .i64 r.from_, .int .i64 r.to_, .int .i64 r.speed, .bool true])] w' fun e w'' => e = .returned (.tuple #[.int .i64 pa, .int .i64 pz]) ∧ Below w'.heap.size w' w'') := fun w' h => by
                  have := rpart_any L ⟨kE, sin, sout⟩ c1 r w' (HL.out.keep h) HE.out HIN.out hb3 hb4 HOK.out
                  rw [HAC.out, ← hpa, ← hpz] at this
                  exact this
                have HCU : Hid (cutB L.els ⟨kE, sin, sout⟩ c1 yy r ↔ pa ≤ yy ∧ yy < pz) := by
                  show _ ↔ _
                  unfold cutB
                  rw [← hpa, ← hpz]
                  exact ⟨fun h => h.2.2, fun h => ⟨⟨HAC.out, HOK.out⟩, HEE.out, h⟩⟩
                clear hpa hpz
                have key : (decide (pa ≤ yy) = false ∧ ¬ (pa ≤ yy ∧ yy < pz)) ∨ (decide (pa ≤ yy) = true ∧ decide (yy < pz) = false ∧ ¬ (pa ≤ yy ∧ yy < pz)) ∨ (decide (pa ≤ yy) = true ∧ decide (yy < pz) = true ∧ (pa ≤ yy ∧ yy < pz)) := by
                  by_cases h1 : pa ≤ yy
                  · by_cases h2 : yy < pz
                    · exact .inr (.inr ⟨decide_eq_true h1, decide_eq_true h2, h1, h2⟩)
                    · exact .inr (.inl ⟨decide_eq_true h1, decide_eq_false h2, fun h => h2 h.2⟩)
                  · exact .inl ⟨decide_eq_false h1, fun h => h1 h.1⟩
                rcases key with ⟨p1, hn⟩ | ⟨p1, p2, hn⟩ | ⟨p1, p2, hy⟩
                iterate 2
                  · have HN : Hid (u = alS L.els ⟨kE, sin, sout⟩ c1 yy (l.take (j + 1)) v) := by
                      show _ = _
                      rw [HTT.out, if_neg (fun h => hn (HCU.out.1 h))]
                    clear hn
                    go_wp2_with (first
                      | (go_at_call 12; refine (to_after (HCK.out _ (etr E3.out E4.out))).mono ?_; rw [HCE.out]; rintro e w' ⟨y1, rfl, rfl⟩)
                      | (go_at_call 39; refine (in_after _ (HPT.out _ (etr (etr E3.out E4.out) (After.is _)))).mono ?_; rintro e w' ⟨y2, rfl, rfl⟩))
                    go_roundg (l.length - (j + 1))
                    case measure => have := HG2.out; omega
                    case rel => exact ⟨j + 1, u, by go_num, rfl, by omega, rfl, etr (etr H2.out.1 E4.out) (After.is _), HN.out⟩
                · have HNM : Hid (min u r.speed = alS L.els ⟨kE, sin, sout⟩ c1 yy (l.take (j + 1)) v) := by
                    show _ = _
                    rw [HTT.out, if_pos (HCU.out.2 hy)]
                  clear hy
                  by_cases hmin : r.speed < u
                  · have HN : Hid (r.speed = alS L.els ⟨kE, sin, sout⟩ c1 yy (l.take (j + 1)) v) := by
                      show _ = _
                      rw [← HNM.out]; omega
                    go_wp2_with (first
                      | (go_at_call 12; refine (to_after (HCK.out _ (etr E3.out E4.out))).mono ?_; rw [HCE.out]; rintro e w' ⟨y1, rfl, rfl⟩)
                      | (go_at_call 39; refine (in_after _ (HPT.out _ (etr (etr E3.out E4.out) (After.is _)))).mono ?_; rintro e w' ⟨y2, rfl, rfl⟩))
                    go_roundg (l.length - (j + 1))
                    case measure => have := HG2.out; omega
                    case rel => exact ⟨j + 1, r.speed, by go_num, rfl, by omega, rfl, etr (etr H2.out.1 E4.out) (After.is _), HN.out⟩
                  · have HN : Hid (u = alS L.els ⟨kE, sin, sout⟩ c1 yy (l.take (j + 1)) v) := by
                      show _ = _
                      rw [← HNM.out]; omega
                    go_wp2_with (first
                      | (go_at_call 12; refine (to_after (HCK.out _ (etr E3.out E4.out))).mono ?_; rw [HCE.out]; rintro e w' ⟨y1, rfl, rfl⟩)
                      | (go_at_call 39; refine (in_after _ (HPT.out _ (etr (etr E3.out E4.out) (After.is _)))).mono ?_; rintro e w' ⟨y2, rfl, rfl⟩))
                    go_roundg (l.length - (j + 1))
                    case measure => have := HG2.out; omega
                    case rel => exact ⟨j + 1, u, by go_num, rfl, by omega, rfl, etr (etr H2.out.1 E4.out) (After.is _), HN.out⟩
        · have e : j = l.length := by omega
          subst e
          have HV : Hid (u = alTo L.els l yy way c0 (k + 1)) := by
            show _ = _
            rw [alTo_succ HS.out, ← H.out.2.2.1, ← H.out.2.2.2, H2.out.2, List.take_length]
          obtain ⟨bE, oE, x', hAE, hx', hbE, e0, e1, e2, e3, e4, e5, e6⟩ := rd_el HL.out.hE E3.out hkE
          rw [HX.out] at hx'
          cases hx'
          rw [hAE] at a2
          have q4n : decide (L.els.length ≤ kE) = false := decide_eq_false (by omega)
          clear hAE
          go_wp2
          go_roundg (way.length - (k + 1))
          case measure => have := HG.out; omega
          case rel => exact ⟨k + 1, u, c1 + x.len, by go_num, rfl, rfl, by omega, rfl, E3.out, L1'.out.keep H2.out.1, HB.out, HV.out⟩
    · have e : k = way.length := by omega
      subst e
      have HF : Hid (v = alV L.els l yy way c0) := H.out.2.2.2
      go_wp2
      go_ret
      exact ⟨by rw [← HF.out]; rfl, H.out.1⟩
def RetQ (q : List Sgm) (w : World) (e : Ending) (w' : World) : Prop := ∃ A' cap', e = .returned (.slice A' q.length cap') ∧ Rd w' A' 4 Sgc q ∧ q.length ≤ 1000000 ∧ Below w.heap.size w w'
set_option maxHeartbeats 64000000 in
theorem law_lowers (L : Lay) (Al : Option Addr) (l : List Rst) (cl : Nat) (A : Option Addr) (way : List Stp) (c : Nat) (o : Int) (B : Option Addr) (p : List Sgm) (cp : Nat) (w : World) (hT : Tabs w) (hL : LayOk w L) (hl : Rd w Al 6 Rsc l) (hlm : l.length ≤ maxLen) (hr : Rd w A 3 Stc way) (hm : way.length ≤ maxLen) (hc : way.length ≤ c) (hp : Rd w B 4 Sgc p) (hpm : p.length ≤ maxLen) :
    Calls Tryd.prog 6 #[.agg #[.string L.name, .slice L.aS L.secs.length L.cS, .slice L.aE L.els.length L.cE, .slice L.aJ L.jts.length L.cJ, .slice L.aG L.sgs.length L.cG, .slice L.aB L.bals.length L.cB], .slice Al l.length cl, .agg #[.slice A way.length c, .int .i64 o, .slice B p.length cp]] w fun e w' => e = .returned (.bool true) ∧ Below w.heap.size w w' := by
  have HT := Lib.hid hT
  have HL := Lib.hid hL
  have HRL := Lib.hid (And.intro hl hlm)
  have HR := Lib.hid (And.intro hr (And.intro hm hc))
  have HP := Lib.hid (And.intro hp hpm)
  clear hT hL hl hlm hr hm hc hp hpm
  have E0 : Hid (Ext w ((w.alloc (.cells #[.string L.name, .slice L.aS L.secs.length L.cS, .slice L.aE L.els.length L.cE, .slice L.aJ L.jts.length L.cJ, .slice L.aG L.sgs.length L.cG, .slice L.aB L.bals.length L.cB] 28)).alloc (.cells #[.slice A way.length c, .int .i64 o, .slice B p.length cp] 45))) := eal (eal (Ext.refl _) _) _
  have L0 : Hid (LayAt ((w.alloc (.cells #[.string L.name, .slice L.aS L.secs.length L.cS, .slice L.aE L.els.length L.cE, .slice L.aJ L.jts.length L.cJ, .slice L.aG L.sgs.length L.cG, .slice L.aB L.bals.length L.cB] 28)).alloc (.cells #[.slice A way.length c, .int .i64 o, .slice B p.length cp] 45)) w.heap.size L) := CellsAt.keep (CellsAt.new rfl) (eal (Ext.refl _) _)
  have C0 : Hid (CaseAt ((w.alloc (.cells #[.string L.name, .slice L.aS L.secs.length L.cS, .slice L.aE L.els.length L.cE, .slice L.aJ L.jts.length L.cJ, .slice L.aG L.sgs.length L.cG, .slice L.aB L.bals.length L.cB] 28)).alloc (.cells #[.slice A way.length c, .int .i64 o, .slice B p.length cp] 45)) (w.heap.size + 1) A way c o B p cp) := CellsAt.new (by simp)
  by_cases hap : ApOk L.els L.jts way o p
  rotate_left
  · have key : (validB p = false) ∨ (validB p = true ∧ wayB L.els L.jts way = false) ∨ (validB p = true ∧ wayB L.els L.jts way = true ∧ decide (o < -1073741824) = true) ∨ (validB p = true ∧ wayB L.els L.jts way = true ∧ decide (o < -1073741824) = false ∧ decide (1073741824 < o) = true) := by
      cases h1 : validB p
      · exact .inl rfl
      · cases h2 : wayB L.els L.jts way
        · exact .inr (.inl ⟨rfl, rfl⟩)
        · by_cases h3 : o < -1073741824
          · exact .inr (.inr (.inl ⟨rfl, rfl, decide_eq_true h3⟩))
          · refine .inr (.inr (.inr ⟨rfl, rfl, decide_eq_false h3, decide_eq_true ?_⟩))
            by_cases h4 : 1073741824 < o
            · exact h4
            · exact absurd ⟨validB_true.1 h1, wayB_true.1 h2, by omega, by omega⟩ hap
    clear hap
    have HVV : Hid (∀ w', Ext w w' → Calls Tryd.prog 21 #[.slice B p.length cp] w' fun e w'' => e = .returned (.bool (validB p)) ∧ Below w'.heap.size w' w'') := fun w' h => rvalid_any B p cp w' HP.out.2 (HP.out.1.keep h)
    have HWW : Hid (∀ w', Ext w w' → Calls Tryd.prog 22 #[.agg #[.string L.name, .slice L.aS L.secs.length L.cS, .slice L.aE L.els.length L.cE, .slice L.aJ L.jts.length L.cJ, .slice L.aG L.sgs.length L.cG, .slice L.aB L.bals.length L.cB], .slice A way.length c] w' fun e w'' => e = .returned (.bool (wayB L.els L.jts way)) ∧ Below w'.heap.size w' w'') := fun w' h => rvalid_way L A way c w' (HL.out.keep h) HR.out.2.1 (HR.out.1.keep h)
    rcases key with k1 | ⟨k1, k2⟩ | ⟨k1, k2, k3⟩ | ⟨k1, k2, k3, k4⟩
    iterate 4
      · go_enter Tryd.func6, Tryd.ntmps6
        go_wp2_with (first
          | (go_at_call 17; refine (few_law L Al l cl A way c o B p cp _ (HL.out.keep E0.out)).mono ?_; rintro e w1 ⟨bb, rfl, hq, hb⟩; have ZZ : Hid (Ext ((w.alloc (.cells #[.string L.name, .slice L.aS L.secs.length L.cS, .slice L.aE L.els.length L.cE, .slice L.aJ L.jts.length L.cJ, .slice L.aG L.sgs.length L.cG, .slice L.aB L.bals.length L.cB] 28)).alloc (.cells #[.slice A way.length c, .int .i64 o, .slice B p.length cp] 45)) w1) := hb; clear hb hq; obtain ⟨l0, a0, a1, a2, a3, a4, a5⟩ := layAt_cells (L0.out.keep ZZ.out); obtain ⟨c9, d0, d1, d2⟩ := caseAt_cells (C0.out.keep ZZ.out); cases bb)
          | (go_at_call 21; refine (HVV.out _ (etr E0.out ZZ.out)).mono ?_; rw [k1]; rintro e w2 ⟨rfl, hb⟩; have ZZ : Hid (Ext ((w.alloc (.cells #[.string L.name, .slice L.aS L.secs.length L.cS, .slice L.aE L.els.length L.cE, .slice L.aJ L.jts.length L.cJ, .slice L.aG L.sgs.length L.cG, .slice L.aB L.bals.length L.cB] 28)).alloc (.cells #[.slice A way.length c, .int .i64 o, .slice B p.length cp] 45)) w2) := etr ZZ.out hb; clear hb; obtain ⟨l0, a0, a1, a2, a3, a4, a5⟩ := layAt_cells (L0.out.keep ZZ.out); obtain ⟨c9, d0, d1, d2⟩ := caseAt_cells (C0.out.keep ZZ.out))
          | (go_at_call 22; refine (HWW.out _ (etr E0.out ZZ.out)).mono ?_; rw [k2]; rintro e w3 ⟨rfl, hb⟩; have ZZ : Hid (Ext ((w.alloc (.cells #[.string L.name, .slice L.aS L.secs.length L.cS, .slice L.aE L.els.length L.cE, .slice L.aJ L.jts.length L.cJ, .slice L.aG L.sgs.length L.cG, .slice L.aB L.bals.length L.cB] 28)).alloc (.cells #[.slice A way.length c, .int .i64 o, .slice B p.length cp] 45)) w3) := etr ZZ.out hb; clear hb; obtain ⟨c9, d0, d1, d2⟩ := caseAt_cells (C0.out.keep ZZ.out))
          | (go_at_call 9; refine (alive_any _ (HT.out.keep (etr E0.out ZZ.out))).mono ?_; rintro e w4 ⟨rfl, hb⟩; have ZZ : Hid (Ext ((w.alloc (.cells #[.string L.name, .slice L.aS L.secs.length L.cS, .slice L.aE L.els.length L.cE, .slice L.aJ L.jts.length L.cJ, .slice L.aG L.sgs.length L.cG, .slice L.aB L.bals.length L.cB] 28)).alloc (.cells #[.slice A way.length c, .int .i64 o, .slice B p.length cp] 45)) w4) := etr ZZ.out hb; clear hb))
        all_goals go_ret
        all_goals exact ⟨rfl, etr E0.out ZZ.out⟩
  have HAP := Lib.hid hap
  obtain ⟨v1, v2, v3, v4⟩ := hap
  have k1 : validB p = true := validB_true.2 v1
  have k2 : wayB L.els L.jts way = true := wayB_true.2 v2
  have K12 := Lib.hid (And.intro k1 k2)
  have k3 : decide (o < -1073741824) = false := decide_eq_false (by omega)
  have k4 : decide (1073741824 < o) = false := decide_eq_false (by omega)
  have HVV : Hid (∀ w', Ext w w' → Calls Tryd.prog 21 #[.slice B p.length cp] w' fun e w'' => e = .returned (.bool true) ∧ Below w'.heap.size w' w'') := fun w' h => k1 ▸ rvalid_any B p cp w' HP.out.2 (HP.out.1.keep h)
  have HWW : Hid (∀ w', Ext w w' → Calls Tryd.prog 22 #[.agg #[.string L.name, .slice L.aS L.secs.length L.cS, .slice L.aE L.els.length L.cE, .slice L.aJ L.jts.length L.cJ, .slice L.aG L.sgs.length L.cG, .slice L.aB L.bals.length L.cB], .slice A way.length c] w' fun e w'' => e = .returned (.bool true) ∧ Below w'.heap.size w' w'') := fun w' h => k2 ▸ rvalid_way L A way c w' (HL.out.keep h) HR.out.2.1 (HR.out.1.keep h)
  obtain ⟨q, hq⟩ : ∃ q, q = allF L.els way o l p := ⟨_, rfl⟩
  have HQQ := Lib.hid hq
  have HAPP : Hid (∀ w', Ext w w' → FewP L l way p → Calls Tryd.prog 19 #[.slice Al l.length cl, .slice A way.length c, .int .i64 o, .agg #[.string L.name, .slice L.aS L.secs.length L.cS, .slice L.aE L.els.length L.cE, .slice L.aJ L.jts.length L.cJ, .slice L.aG L.sgs.length L.cG, .slice L.aB L.bals.length L.cB], .slice B p.length cp] w' (RetQ q w')) := fun w' h hf => by
    rw [hq, ← apL_yes HAP.out]
    exact apply_any L Al l cl A way c o B p cp w' (HL.out.keep h) (HT.out.keep h) hf.2.2.2.2 (HRL.out.1.keep h) HRL.out.2 (HR.out.1.keep h) HR.out.2.1 HR.out.2.2 (HP.out.1.keep h) (by have := hf.2.2.2.1; omega)
  clear hq v1 v2 v3 v4 k1 k2
  go_enter Tryd.func6, Tryd.ntmps6
  go_upto_region 4 with (first
    | (go_at_call 17; refine (few_law L Al l cl A way c o B p cp _ (HL.out.keep E0.out)).mono ?_; rintro e w1 ⟨bb, rfl, hq, hb⟩; have HQ := Lib.hid hq; have ZZ : Hid (Ext ((w.alloc (.cells #[.string L.name, .slice L.aS L.secs.length L.cS, .slice L.aE L.els.length L.cE, .slice L.aJ L.jts.length L.cJ, .slice L.aG L.sgs.length L.cG, .slice L.aB L.bals.length L.cB] 28)).alloc (.cells #[.slice A way.length c, .int .i64 o, .slice B p.length cp] 45)) w1) := hb; clear hb hq; obtain ⟨l0, a0, a1, a2, a3, a4, a5⟩ := layAt_cells (L0.out.keep ZZ.out); obtain ⟨c9, d0, d1, d2⟩ := caseAt_cells (C0.out.keep ZZ.out); cases bb)
    | (go_at_call 21; refine (HVV.out _ (etr E0.out ZZ.out)).mono ?_; rintro e w2 ⟨rfl, hb⟩; have ZZ : Hid (Ext ((w.alloc (.cells #[.string L.name, .slice L.aS L.secs.length L.cS, .slice L.aE L.els.length L.cE, .slice L.aJ L.jts.length L.cJ, .slice L.aG L.sgs.length L.cG, .slice L.aB L.bals.length L.cB] 28)).alloc (.cells #[.slice A way.length c, .int .i64 o, .slice B p.length cp] 45)) w2) := etr ZZ.out hb; clear hb; obtain ⟨l0, a0, a1, a2, a3, a4, a5⟩ := layAt_cells (L0.out.keep ZZ.out); obtain ⟨c9, d0, d1, d2⟩ := caseAt_cells (C0.out.keep ZZ.out))
    | (go_at_call 22; refine (HWW.out _ (etr E0.out ZZ.out)).mono ?_; rintro e w3 ⟨rfl, hb⟩; have ZZ : Hid (Ext ((w.alloc (.cells #[.string L.name, .slice L.aS L.secs.length L.cS, .slice L.aE L.els.length L.cE, .slice L.aJ L.jts.length L.cJ, .slice L.aG L.sgs.length L.cG, .slice L.aB L.bals.length L.cB] 28)).alloc (.cells #[.slice A way.length c, .int .i64 o, .slice B p.length cp] 45)) w3) := etr ZZ.out hb; clear hb; obtain ⟨l0, a0, a1, a2, a3, a4, a5⟩ := layAt_cells (L0.out.keep ZZ.out); obtain ⟨c9, d0, d1, d2⟩ := caseAt_cells (C0.out.keep ZZ.out))
    | (go_at_call 9; refine (alive_any _ (HT.out.keep (etr E0.out ZZ.out))).mono ?_; rintro e w4 ⟨rfl, hb⟩; have ZZ : Hid (Ext ((w.alloc (.cells #[.string L.name, .slice L.aS L.secs.length L.cS, .slice L.aE L.els.length L.cE, .slice L.aJ L.jts.length L.cJ, .slice L.aG L.sgs.length L.cG, .slice L.aB L.bals.length L.cB] 28)).alloc (.cells #[.slice A way.length c, .int .i64 o, .slice B p.length cp] 45)) w4) := etr ZZ.out hb; clear hb)
    | (go_at_call 19; refine (HAPP.out _ (etr E0.out ZZ.out) (HQ.out (by simp))).mono ?_; rintro e w5 ⟨A5, c5, rfl, hr5, hm5, hb5⟩; have HR5 := Lib.hid hr5; have HM5 := Lib.hid hm5; have ZZ : Hid (Ext ((w.alloc (.cells #[.string L.name, .slice L.aS L.secs.length L.cS, .slice L.aE L.els.length L.cE, .slice L.aJ L.jts.length L.cJ, .slice L.aG L.sgs.length L.cG, .slice L.aB L.bals.length L.cB] 28)).alloc (.cells #[.slice A way.length c, .int .i64 o, .slice B p.length cp] 45)) w5) := etr ZZ.out hb5; clear hr5 hm5 hb5))
  · go_ret
    exact ⟨rfl, etr E0.out ZZ.out⟩
  have HFP : Hid (FewP L l way p) := HQ.out (by simp)
  have E5 : Hid (Ext w w5) := etr E0.out ZZ.out
  have L5 : Hid (LayAt w5 w.heap.size L) := L0.out.keep ZZ.out
  have C5 : Hid (CaseAt w5 (w.heap.size + 1) A way c o B p cp) := C0.out.keep ZZ.out
  have P5 : Hid (Rd w5 B 4 Sgc p) := HP.out.1.keep E5.out
  clear l0 a0 a1 a2 a3 a4 a5 c9 d0 d1 d2
  have hpl : p.length ≤ 300 := HFP.out.2.2.2.1
  have hll : l.length ≤ 40 := HFP.out.2.1
  by_cases h0 : q = []
  · obtain ⟨c9, d0, d1, d2⟩ := caseAt_cells C5.out
    have n0 : ((q.length : Int) == 0) = true := by simp [h0]
    have key : (((p.length : Int) == 0) = true) ∨ (((p.length : Int) == 0) = false ∧ decide (128 < (p.length : Int) + 2 * (l.length : Int)) = true) := by
      by_cases hp0 : p = []
      · exact .inl (by simp [hp0])
      · refine .inr ⟨by simpa using hp0, decide_eq_true ?_⟩
        have := allF_len (els := L.els) (c := o) (way_pair HAP.out.2.1) (l := l) HAP.out.1 hp0 (by rw [← HQQ.out]; exact h0)
        omega
    have n1 : IntKind.i64.wrap (2 * (l.length : Int)) = 2 * (l.length : Int) := IntWalk.i64_in _ (by omega)
    have n2 : IntKind.i64.wrap ((p.length : Int) + 2 * (l.length : Int)) = (p.length : Int) + 2 * (l.length : Int) := IntWalk.i64_in _ (by omega)
    clear h0
    rcases key with q1 | ⟨q1, q2⟩
    iterate 2
      · go_wp2_with (go_at_call 9; refine (alive_any _ (HT.out.keep E5.out)).mono ?_; rintro e w6 ⟨rfl, hb⟩; have H6 := Lib.hid hb; clear hb)
        go_ret
        exact ⟨rfl, etr E5.out H6.out⟩
  have n0 : ((q.length : Int) == 0) = false := by simpa using h0
  have HQN : Hid (allF L.els way o l p ≠ []) := fun h => h0 (by rw [HQQ.out]; exact h)
  clear h0
  obtain ⟨vq, hpn, hfr, hto⟩ := lowers_ends HAP.out.1 HQN.out
  rw [← HQQ.out] at vq hfr hto
  have HVQ := Lib.hid vq
  have HPN := Lib.hid hpn
  have HFT := Lib.hid (And.intro hfr hto)
  have hql : q.length ≤ 128 := vq.1
  have HAT : Hid (∀ (g : List Sgm) (s0 : Sgm) (y : Int), (g = p ∨ g = q) → s0 ∈ g → (y = s0.from_ ∨ y = s0.to_ - 1) → ∃ s u, atO p y = some s ∧ atO q y = some u ∧ u.grade = s.grade ∧ u.speed = min s.speed (alV L.els l y way o)) := fun g s0 y hg hs hy => by
    rw [HQQ.out]
    exact lowers_at HAP.out.1 HQN.out (by rw [← HQQ.out]; exact hg) hs hy
  have HSO : Hid (∀ s0, s0 ∈ p ++ q → SegOk s0) := fun s0 hs => by
    obtain ⟨b1, h1⟩ := ch_of HAP.out.1
    obtain ⟨b2, h2⟩ := ch_of HVQ.out
    rcases List.mem_append.1 hs with h | h
    · exact h1.ok s0 h
    · exact h2.ok s0 h
  clear vq hpn hfr hto
  obtain ⟨i0, hi, hz0, hz1, hz2⟩ := info_parts inf_Seg
  have HII := Lib.hid hi
  obtain ⟨j0, hj, hy0, hy1, hy2⟩ := info_parts inf_Int
  have HJJ := Lib.hid hj
  clear hi hj
  obtain ⟨c9, d0, d1, d2⟩ := caseAt_cells C5.out
  have c9' := lt_up c9
  have HO : Hid (OwnL (w5.alloc (.cells #[] 53)) w5.heap.size 53 4 Sgc (.slice (some ⟨w5.heap.size, 0, none⟩) 0 0) ([] : List Sgm)) := World.ownsRow_lit w5 #[] 0 (Nat.le_refl _) (by simp) (by simp)
  go_upto_region 7 with (fail)
  apply wp_region_lit
  iterate 9 go_step
  refine wp_appL (u := w5) Sgc_len Sgc_one Tryd.underlying43 HII.out hz0 hz1 hz2 rfl (by decide) rfl rfl rfl HO.out (eal (Ext.refl _) _) p B cp (by simp [go_sem]) (P5.out.keep (eal (Ext.refl _) _)) (by simp; omega) (by simp; unfold maxLen; omega) ?_
  intro g1 w6 H6
  rw [List.nil_append] at H6
  iterate 3 go_step
  refine wp_appL (u := w5) Sgc_len Sgc_one Tryd.underlying43 HII.out hz0 hz1 hz2 rfl (by decide) rfl rfl rfl H6.out.1 H6.out.2.1 q A5 c5 (by simp [go_sem]) (HR5.out.keep H6.out.2.1) (by omega) (by unfold maxLen; omega) ?_
  intro g2 w7 H7
  obtain ⟨g, hg⟩ : ∃ g, g = p ++ q := ⟨_, rfl⟩
  rw [← hg] at H7
  have hgl : g.length ≤ 428 := by rw [hg]; simp; omega
  have HGG := Lib.hid hg
  obtain ⟨Ag, cg, rfl, hrg, hmg⟩ := H7.out.1.rd Sgc_len
  have HRG := Lib.hid hrg
  have E7 : Hid (Ext w5 w7) := H7.out.2.1
  clear hg hrg hmg H6 H7 c9 c9' d0 d1 d2
  go_wp2
  go_loopg [8, 82] g.length (fun gg x8 ix wr => ∃ (k : Nat) (xs : List Int), ix = .int .i64 k ∧ k ≤ g.length ∧ gg = g.length - k ∧ Hid (Ext w7 wr ∧ OwnL wr w7.heap.size 3 1 Nmc x8 xs ∧ xs.length = 2 * k ∧ ∀ y ∈ xs, ∃ s0 ∈ g, y = s0.from_ ∨ y = s0.to_ - 1))
  case atStart => exact ⟨0, [], rfl, by omega, by omega, Ext.refl _, OwnL.nil, rfl, fun y h => by cases h⟩
  case round =>
    obtain ⟨k, xs, rfl, hk, hg, H⟩ := hrel
    have HG := Lib.hid hg
    clear hg
    have hxl := H.out.2.2.1
    by_cases hlt : k < g.length
    · obtain ⟨b, off, s, rfl, hs, hbs, c0, c1, c2, c3⟩ := rd_seg HRG.out H.out.1 hlt
      have hso := HSO.out s (by rw [← HGG.out]; exact List.mem_of_getElem? hs)
      have hsw : IntKind.i64.wrap (s.to_ - 1) = s.to_ - 1 := IntWalk.i64_in _ (by unfold SegOk at hso; omega)
      have HSM : Hid (s ∈ g) := List.mem_of_getElem? hs
      have X4 : Hid (Ext wr ((wr.alloc (.cells #[.int .i64 s.from_, .int .i64 s.to_, .int .i64 s.grade, .int .i64 s.speed] 53)).alloc (.cells #[.int .i64 s.from_, .int .i64 (s.to_ - 1)] 3))) := eal (eal (Ext.refl _) _) _
      have C4 : Hid (CellsAt ((wr.alloc (.cells #[.int .i64 s.from_, .int .i64 s.to_, .int .i64 s.grade, .int .i64 s.speed] 53)).alloc (.cells #[.int .i64 s.from_, .int .i64 (s.to_ - 1)] 3)) (wr.heap.size + 1) (List.flatMap Nmc [s.from_, s.to_ - 1])) := CellsAt.new (by simp)
      clear hs hso
      go_wp2_with (at_builtin
                   refine wp_appL (u := w7) Nmc_len Nmc_one Tryd.underlying51 HJJ.out hy0 hy1 hy2 rfl (by decide) rfl rfl rfl (H.out.2.1.keep X4.out) (etr H.out.1 X4.out) [s.from_, s.to_ - 1] (some ⟨wr.heap.size + 1, 0, none⟩) 2 (by simp [go_sem]) (rd_cells Nmc_len C4.out) (by simp; omega) (by simp; unfold maxLen; omega) ?_
                   intro v1 w8 H8)
      go_roundg (g.length - (k + 1))
      case measure => have := HG.out; omega
      case rel => exact ⟨k + 1, _, by go_num, by omega, rfl, H8.out.2.1, H8.out.1, by simp; omega, fun y hy => by
        rcases List.mem_append.1 hy with hm | hm
        · exact H.out.2.2.2 y hm
        · simp at hm
          rcases hm with rfl | rfl
          · exact ⟨s, HSM.out, .inl rfl⟩
          · exact ⟨s, HSM.out, .inr rfl⟩⟩
    · have hk9 : k = g.length := by omega
      obtain ⟨Ax, cx, rfl, hrx, hmx⟩ := H.out.2.1.rd Nmc_len
      have S8 : Hid (Ext w5 wr ∧ Rd wr Ax 1 Nmc xs) := ⟨etr E7.out H.out.1, hrx⟩
      have HXS : Hid (∀ y ∈ xs, ∃ s0 ∈ g, y = s0.from_ ∨ y = s0.to_ - 1) := H.out.2.2.2
      have hxm : xs.length ≤ 1000 := by omega
      clear hrx hmx hk9 hxl
      go_wp2
      go_loopg [97] xs.length (fun gg ix wr => ∃ k : Nat, ix = .int .i64 k ∧ k ≤ xs.length ∧ gg = xs.length - k ∧ Hid (Ext w5 wr ∧ Rd wr Ax 1 Nmc xs))
      case atStart => exact ⟨0, rfl, by omega, by omega, S8.out⟩
      case round =>
        obtain ⟨k, rfl, hk, hg, H2⟩ := hrel
        have HG := Lib.hid hg
        clear hg
        obtain ⟨c9, d0, d1, d2⟩ := caseAt_cells (C5.out.keep H2.out.1)
        by_cases hlt : k < xs.length
        · obtain ⟨b, off, y, rfl, hs, hbs, e0, e1⟩ := rd_nm H2.out.2 (Ext.refl _) hlt
          obtain ⟨s0, hs0, hy0'⟩ := HXS.out y (List.mem_of_getElem? hs)
          obtain ⟨s, u, hs1, hu1, hgr, hsp⟩ : ∃ s u, atO p y = some s ∧ atO q y = some u ∧ u.grade = s.grade ∧ u.speed = min s.speed (alV L.els l y way o) := by
            rw [HGG.out] at hs0
            rcases List.mem_append.1 hs0 with hm | hm
            · exact HAT.out p s0 y (.inl rfl) hm hy0'
            · exact HAT.out q s0 y (.inr rfl) hm hy0'
          have HA1 : Hid (∀ w', Ext w5 w' → Calls Tryd.prog 23 #[.slice B p.length cp, .int .i64 y] w' fun e w'' => e = .returned (.tuple #[.agg #[.int .i64 s.from_, .int .i64 s.to_, .int .i64 s.grade, .int .i64 s.speed], .bool true]) ∧ Below w'.heap.size w' w'') := fun w' h => by
            have := rat_any B p cp y w' HP.out.2 (P5.out.keep h)
            rw [show atS p y = s by unfold atS; rw [hs1]; rfl, show atB p y = true by unfold atB; rw [hs1]; rfl] at this
            exact this
          have HA2 : Hid (∀ w', Ext w5 w' → Calls Tryd.prog 23 #[.slice A5 q.length c5, .int .i64 y] w' fun e w'' => e = .returned (.tuple #[.agg #[.int .i64 u.from_, .int .i64 u.to_, .int .i64 u.grade, .int .i64 u.speed], .bool true]) ∧ Below w'.heap.size w' w'') := fun w' h => by
            have := rat_any A5 q c5 y w' (by unfold maxLen; omega) (HR5.out.keep h)
            rw [show atS q y = u by unfold atS; rw [hu1]; rfl, show atB q y = true by unfold atB; rw [hu1]; rfl] at this
            exact this
          obtain ⟨al, hal⟩ : ∃ al, al = alV L.els l y way o := ⟨_, rfl⟩
          rw [← hal] at hsp
          have HAL : Hid (∀ w', Ext w5 w' → Calls Tryd.prog 24 #[.agg #[.string L.name, .slice L.aS L.secs.length L.cS, .slice L.aE L.els.length L.cE, .slice L.aJ L.jts.length L.cJ, .slice L.aG L.sgs.length L.cG, .slice L.aB L.bals.length L.cB], .slice Al l.length cl, .agg #[.slice A way.length c, .int .i64 o, .slice B p.length cp], .int .i64 y] w' fun e w'' => e = .returned (.int .i64 al) ∧ Below w'.heap.size w' w'') := fun w' h => by
            rw [hal]
            exact allowed_any L Al l cl A way c o B p cp y w' (HL.out.keep (etr E5.out h)) HFP.out.2.2.2.2 (HRL.out.1.keep (etr E5.out h)) HRL.out.2 (HR.out.1.keep (etr E5.out h)) (way_in HAP.out.2.1) HAP.out.2.1.2.1 HAP.out.2.2.1 HAP.out.2.2.2
          have hgr' : (u.grade != s.grade) = false := by simp [hgr]
          have HSP := Lib.hid hsp
          clear hs hs1 hu1 hgr hal hs0 hy0' hsp
          go_upto_region 16 with (go_at_call 23; refine (to_after (HA1.out _ H2.out.1)).mono ?_; rintro e w' ⟨y1, rfl, rfl⟩)
          obtain ⟨wa, hwa⟩ : ∃ wa, wa = y1.val.alloc (.cells #[.int .i64 s.from_, .int .i64 s.to_, .int .i64 s.grade, .int .i64 s.speed] 53) := ⟨_, rfl⟩
          rw [← hwa]
          have XA : Hid (Ext wr wa) := hwa ▸ eal y1.is _
          have CA : Hid (CellsAt wa y1.val.heap.size (Sgc s)) := hwa ▸ CellsAt.new rfl
          clear hwa
          go_upto_region 17 with (go_at_call 23; refine (to_after (HA2.out _ (etr H2.out.1 XA.out))).mono ?_; rintro e w' ⟨y2, rfl, rfl⟩)
          obtain ⟨wb, hwb⟩ : ∃ wb, wb = y2.val.alloc (.cells #[.int .i64 u.from_, .int .i64 u.to_, .int .i64 u.grade, .int .i64 u.speed] 53) := ⟨_, rfl⟩
          rw [← hwb]
          have XB : Hid (Ext wa wb) := hwb ▸ eal y2.is _
          have CB : Hid (CellsAt wb y2.val.heap.size (Sgc u)) := hwb ▸ CellsAt.new rfl
          clear hwb c9 d0 d1 d2 e0 e1 hbs
          have XAB : Hid (Ext wr wb) := etr XA.out XB.out
          obtain ⟨c9, d0, d1, d2⟩ := caseAt_cells ((C5.out.keep H2.out.1).keep XAB.out)
          obtain ⟨l0, a0, a1, a2, a3, a4, a5⟩ := layAt_cells ((L5.out.keep H2.out.1).keep XAB.out)
          have m2 := (CA.out.keep XB.out).2 2 _ rfl
          have m3 := (CA.out.keep XB.out).2 3 _ rfl
          have m9 := (CA.out.keep XB.out).1
          have r2 := CB.out.2 2 _ rfl
          have r3 := CB.out.2 3 _ rfl
          have r9 := CB.out.1
          have hsp := HSP.out
          have hmin : (al < s.speed ∧ (u.speed != al) = false) ∨ (¬ al < s.speed ∧ (u.speed != s.speed) = false) := by
            by_cases h : al < s.speed
            · exact .inl ⟨h, by rw [hsp]; simp; omega⟩
            · exact .inr ⟨h, by rw [hsp]; simp; omega⟩
          clear hsp
          rcases hmin with ⟨h1, h2⟩ | ⟨h1, h2⟩
          iterate 2
            · refine wp_region_after (by kernel_rfl) (by kernel_rfl) ?_
              repeat (first | go_big_quiet_step ((go_at_call 24; exact after_call _ (HAL.out _ (etr H2.out.1 (etr XAB.out (After.is _)))))))
              refine wpQuiet_nil ?_
              rintro _ ⟨z, rfl⟩
              go_wp2
              go_roundg (xs.length - (k + 1))
              case measure => have := HG.out; omega
              case rel => exact ⟨k + 1, by go_num, by omega, rfl, etr H2.out.1 (etr XAB.out z.is), H2.out.2.keep (etr XAB.out z.is)⟩
        · have EZ : Hid (Ext w wr) := etr E5.out H2.out.1
          have hq0 : 0 < q.length := by have := HQN.out; rw [← HQQ.out] at this; exact List.length_pos_iff.2 this
          have hp0 : 0 < p.length := List.length_pos_iff.2 HPN.out
          have HQR := HR5.out.keep H2.out.1
          have HPR := P5.out.keep H2.out.1
          have HVL : Hid (∀ w', Ext wr w' → Calls Tryd.prog 21 #[.slice A5 q.length c5] w' fun e w'' => e = .returned (.bool true) ∧ Below w'.heap.size w' w'') := fun w' h => validB_true.2 HVQ.out ▸ rvalid_any A5 q c5 w' (by unfold maxLen; omega) (HQR.keep h)
          obtain ⟨b1, o1, s1, hA1, hs1, hb1, x10, x11, x12, x13⟩ := rd_seg (k := 0) HQR (Ext.refl _) hq0
          obtain ⟨b2, o2, s2, hA2, hs2, hb2, x20, x21, x22, x23⟩ := rd_seg (k := q.length - 1) HQR (Ext.refl _) (by omega)
          obtain ⟨b3, o3, s3, hA3, hs3, hb3, x30, x31, x32, x33⟩ := rd_seg (k := 0) HPR (Ext.refl _) hp0
          obtain ⟨b4, o4, s4, hA4, hs4, hb4, x40, x41, x42, x43⟩ := rd_seg (k := p.length - 1) HPR (Ext.refl _) (by omega)
          rw [hA1] at hA2
          obtain ⟨rfl, rfl⟩ := rd_same hA2
          rw [hA3] at hA4
          obtain ⟨rfl, rfl⟩ := rd_same hA4
          have q1 : (s1.from_ == s3.from_) = true := by
            have := HFT.out.1
            rw [getD_of hs1, getD_of hs3] at this
            simp [this]
          have q2 : (s2.to_ == s4.to_) = true := by
            have := HFT.out.2
            rw [getD_of hs2, getD_of hs4] at this
            simp [this]
          have n1 : IntKind.i64.wrap ((p.length : Int) - 1) = (p.length : Int) - 1 := IntWalk.i64_in _ (by omega)
          have n2 : ((p.length : Int) - 1).toNat = p.length - 1 := by omega
          have n3 : (0 : Int) ≤ (p.length : Int) - 1 := by omega
          have n4 : (p.length : Int) - 1 < (p.length : Int) := by omega
          have n5 : (1 : Int) ≤ (p.length : Int) := by omega
          have n6 : 1 ≤ p.length := by omega
          have n7 : p.length - 1 < p.length := by omega
          have t1 : IntKind.i64.wrap ((q.length : Int) - 1) = (q.length : Int) - 1 := IntWalk.i64_in _ (by omega)
          have t2 : ((q.length : Int) - 1).toNat = q.length - 1 := by omega
          have t3 : (0 : Int) ≤ (q.length : Int) - 1 := by omega
          have t4 : (q.length : Int) - 1 < (q.length : Int) := by omega
          have t5 : (1 : Int) ≤ (q.length : Int) := by omega
          have t6 : 1 ≤ q.length := by omega
          have t7 : q.length - 1 < q.length := by omega
          simp only [Nat.zero_mul, Nat.add_zero] at x10 x30
          rw [hA1] at HVL
          rw [hA3] at d2
          rw [hA1]
          clear hA1 hA2 hA3 hA4 hs1 hs2 hs3 hs4 HQR HPR x11 x12 x13 x20 x22 x23 x31 x32 x33 x40 x42 x43
          go_wp2
          refine wp_region_after (by kernel_rfl) (by kernel_rfl) ?_
          repeat (first | go_big_quiet_step (first
            | (go_at_call 21; exact after_call _ (HVL.out _ (After.is _)))
            | (go_at_call 9; exact after_call _ (alive_any _ (HT.out.keep (etr EZ.out (After.is _)))))))
          refine wpQuiet_nil ?_
          rintro _ ⟨z, rfl⟩
          go_wp2
          go_ret
          exact ⟨rfl, etr EZ.out z.is⟩
end Go.Proofs.YtacnfchoemndeaaDoor

