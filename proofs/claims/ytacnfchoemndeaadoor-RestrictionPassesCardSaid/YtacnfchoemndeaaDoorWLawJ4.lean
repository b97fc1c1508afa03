/- Walk of the law RestrictionPasses. -/
import Derived.Test.YtacnfchoemndeaaDoorWChkG
import Derived.Test.YtacnfchoemndeaaDoorWProfF
set_option linter.unusedVariables false
set_option linter.unusedSimpArgs false
set_option maxRecDepth 100000
namespace Go.Proofs.YtacnfchoemndeaaDoor
open Go.ChangeShapes Go.WideShapes Go.ChangeAt Go.RowKit
open Sg

/-- The way over one element is possible, whatever the element. -/
theorem way_one {els : List Elm} {jts : List Jnt} {el : Int} (he : ElsOk els) (h : hasEl els el) : Sg.Way els jts [⟨el, 0, 1⟩] := by
  obtain ⟨k, x, hk, hx, hxe⟩ := has_at h
  have hx' := he k x hx
  refine ⟨by simp, by simp, fun i s hi hs => ?_⟩
  have hi' : i < 1 := hi
  obtain rfl : i = 0 := by omega
  simp at hs
  subst hs
  refine ⟨⟨h, ?_⟩, fun j t hj => absurd hj (by omega), fun t h => absurd h (by omega)⟩
  show needB (elAt els el).kind 0 1 = true
  rw [hxe]
  have : x.kind = 1 ∨ x.kind = 2 ∨ x.kind = 3 := by have := hx'.1; have := hx'.2.1; omega
  rcases this with e | e | e <;> rw [e] <;> decide
theorem app_one {els : List Elm} {jts : List Jnt} {el n : Int} {l : List Rst} (he : ElsOk els) (h : hasEl els el) (h1 : 1 ≤ n) (h2 : n ≤ 1073741824) : appL els jts l [⟨el, 0, 1⟩] 0 [⟨0, n, 0, 10000⟩] = allF els [⟨el, 0, 1⟩] 0 l [⟨0, n, 0, 10000⟩] :=
  apL_yes ⟨seg_one h1 h2, way_one he h, by decide, by decide⟩
def RetQ (q : List Sgm) (w : World) (e : Ending) (w' : World) : Prop := ∃ A' cap', e = .returned (.slice A' q.length cap') ∧ Rd w' A' 4 Sgc q ∧ q.length ≤ 1000000 ∧ Below w.heap.size w w'
def RetL (n : Int) (q : List Rst) (w : World) (e : Ending) (w' : World) : Prop := ∃ A' cap', e = .returned (.tuple #[.slice A' q.length cap', .int .i64 n]) ∧ Rd w' A' 6 Rsc q ∧ q.length ≤ maxLen ∧ q.length ≤ cap' ∧ Below w.heap.size w w'
theorem set_ret {A : Option Addr} {l : List Rst} {c : Nat} {id : Int} {a : Bool} {w : World} {n : Int} {q : List Rst} (hm : l.length ≤ 400000) (hc : l.length ≤ c) (hr : Rd w A 6 Rsc l) (hn : setE l id a = n) (hq : setL l id a = q) : Calls Tryd.prog 15 #[.slice A l.length c, .int .i64 id, .bool a] w (RetL n q w) := by
  subst hn hq
  exact (set_any A l c id a w hm hc hr).mono fun e w' ⟨v, h1, h2, h3⟩ => by
    obtain ⟨A', c', rfl, k1, k2, k3⟩ := h2.rdc Rsc_len
    exact ⟨A', c', h1, k1, k2, k3, h3⟩
theorem put_ret {L : Lay} {r : Rst} {A : Option Addr} {l : List Rst} {c : Nat} {w : World} {n : Int} {q : List Rst} (hL : LayOk w L) (hm : l.length ≤ 400000) (hc : l.length ≤ c) (hr : Rd w A 6 Rsc l) (hn : putE L.els l r = n) (hq : putL L.els l r = q) : Calls Tryd.prog 10 #[.agg #[.string L.name, .slice L.aS L.secs.length L.cS, .slice L.aE L.els.length L.cE, .slice L.aJ L.jts.length L.cJ, .slice L.aG L.sgs.length L.cG, .slice L.aB L.bals.length L.cB], .slice A l.length c, .agg #[.int .i64 r.id, .int .i64 r.el, .int .i64 r.from_, .int .i64 r.to_, .int .i64 r.speed, .bool r.act]] w (RetL n q w) := by
  subst hn hq
  exact (put_any L r A l c w hL hm hc hr).mono fun e w' ⟨v, h1, h2, h3⟩ => by
    obtain ⟨A', c', rfl, k1, k2, k3⟩ := h2.rdc Rsc_len
    exact ⟨A', c', h1, k1, k2, k3, h3⟩
set_option maxHeartbeats 32000000 in
theorem law_passes (L : Lay) (Al : Option Addr) (l : List Rst) (cl : Nat) (r : Rst) (w : World) (hT : Tabs w) (hL : LayOk w L) (hl : Rd w Al 6 Rsc l) (hlm : l.length ≤ maxLen) (hlc : l.length ≤ cl) :
    Calls Tryd.prog 7 #[.agg #[.string L.name, .slice L.aS L.secs.length L.cS, .slice L.aE L.els.length L.cE, .slice L.aJ L.jts.length L.cJ, .slice L.aG L.sgs.length L.cG, .slice L.aB L.bals.length L.cB], .slice Al l.length cl, .agg #[.int .i64 r.id, .int .i64 r.el, .int .i64 r.from_, .int .i64 r.to_, .int .i64 r.speed, .bool r.act]] w fun e w' => e = .returned (.bool true) ∧ Below w.heap.size w w' := by
  have HT := Lib.hid hT
  have HL := Lib.hid hL
  have HRL := Lib.hid (And.intro hl (And.intro hlm hlc))
  clear hT hL hl hlm hlc
  have E0 : Hid (Ext w ((w.alloc (.cells #[.string L.name, .slice L.aS L.secs.length L.cS, .slice L.aE L.els.length L.cE, .slice L.aJ L.jts.length L.cJ, .slice L.aG L.sgs.length L.cG, .slice L.aB L.bals.length L.cB] 28)).alloc (.cells #[.int .i64 r.id, .int .i64 r.el, .int .i64 r.from_, .int .i64 r.to_, .int .i64 r.speed, .bool r.act] 31))) := eal (eal (Ext.refl _) _) _
  have L0 : Hid (LayAt ((w.alloc (.cells #[.string L.name, .slice L.aS L.secs.length L.cS, .slice L.aE L.els.length L.cE, .slice L.aJ L.jts.length L.cJ, .slice L.aG L.sgs.length L.cG, .slice L.aB L.bals.length L.cB] 28)).alloc (.cells #[.int .i64 r.id, .int .i64 r.el, .int .i64 r.from_, .int .i64 r.to_, .int .i64 r.speed, .bool r.act] 31)) w.heap.size L) := CellsAt.keep (CellsAt.new rfl) (eal (Ext.refl _) _)
  have R0 : Hid (RstAt ((w.alloc (.cells #[.string L.name, .slice L.aS L.secs.length L.cS, .slice L.aE L.els.length L.cE, .slice L.aJ L.jts.length L.cJ, .slice L.aG L.sgs.length L.cG, .slice L.aB L.bals.length L.cB] 28)).alloc (.cells #[.int .i64 r.id, .int .i64 r.el, .int .i64 r.from_, .int .i64 r.to_, .int .i64 r.speed, .bool r.act] 31)) (w.heap.size + 1) r) := CellsAt.new (by simp)
  have HFEW : Hid (∀ w', Ext w w' → Calls Tryd.prog 17 #[.agg #[.string L.name, .slice L.aS L.secs.length L.cS, .slice L.aE L.els.length L.cE, .slice L.aJ L.jts.length L.cJ, .slice L.aG L.sgs.length L.cG, .slice L.aB L.bals.length L.cB], .slice Al l.length cl, .agg #[.slice none 0 0, .int .i64 0, .slice none 0 0]] w' (RetB (fun b => b = true → FewP L l [] []) w')) := fun w' h => few_law L Al l cl none [] 0 0 none [] 0 w' (HL.out.keep h)
  go_enter Tryd.func7, Tryd.ntmps7
  obtain ⟨a, ha⟩ : ∃ a, a = putL L.els l r := ⟨_, rfl⟩
  obtain ⟨en, hen⟩ : ∃ en, en = putE L.els l r := ⟨_, rfl⟩
  have HPUT : Hid (∀ w', Ext w w' → FewP L l [] [] → Calls Tryd.prog 10 #[.agg #[.string L.name, .slice L.aS L.secs.length L.cS, .slice L.aE L.els.length L.cE, .slice L.aJ L.jts.length L.cJ, .slice L.aG L.sgs.length L.cG, .slice L.aB L.bals.length L.cB], .slice Al l.length cl, .agg #[.int .i64 r.id, .int .i64 r.el, .int .i64 r.from_, .int .i64 r.to_, .int .i64 r.speed, .bool r.act]] w' (RetL en a w')) := fun w' h hf => put_ret (HL.out.keep h) (by have := hf.2.1; omega) HRL.out.2.2 (HRL.out.1.keep h) hen.symm ha.symm
  have HEN := Lib.hid (And.intro ha hen)
  clear ha hen
  go_upto_region 4 with (first
    | (go_at_call 17; refine (HFEW.out _ E0.out).mono ?_; rintro e w1 ⟨bb, rfl, hq, hb⟩; have H1 := Lib.hid hb; have HQ := Lib.hid hq; clear hb hq; obtain ⟨l0, a0, a1, a2, a3, a4, a5⟩ := layAt_cells (L0.out.keep H1.out); obtain ⟨r0, b0, b1, b2, b3, b4, b5⟩ := rstAt_cells (R0.out.keep H1.out); cases bb)
    | (go_at_call 9; refine (alive_any _ (HT.out.keep (etr E0.out H1.out))).mono ?_; rintro e w2 ⟨rfl, hb⟩; have H2 := Lib.hid hb; clear hb)
    | (go_at_call 10; refine (HPUT.out _ (etr E0.out H1.out) (HQ.out (by simp))).mono ?_; rintro e w2 ⟨A2, c2, rfl, hr2, hm2, hc2, hb⟩; have H2 := Lib.hid hb; have HR2 := Lib.hid hr2; have HM2 := Lib.hid (And.intro hm2 hc2); clear hb hr2 hm2 hc2))
  · go_ret
    exact ⟨rfl, etr (etr E0.out H1.out) H2.out⟩
  have HFP : Hid (FewP L l [] []) := HQ.out (by simp)
  have E1 : Hid (Ext w w1) := etr E0.out H1.out
  have L1 : Hid (LayAt w1 w.heap.size L) := L0.out.keep H1.out
  have R1 : Hid (RstAt w1 (w.heap.size + 1) r) := R0.out.keep H1.out
  have E2 : Hid (Ext w w2) := etr E1.out H2.out
  clear l0 a0 a1 a2 a3 a4 a5 r0 b0 b1 b2 b3 b4 b5
  by_cases he : en = 0
  rotate_left
  · have q1 : (en != 0) = true := by simpa using he
    have ha0 : a = [] := by rw [HEN.out.1]; exact putL_ne (by rw [← HEN.out.2]; exact he)
    have q2 : ((a.length : Int) == 0) = true := by simp [ha0]
    clear he ha0
    go_wp2_with (go_at_call 9; refine (alive_any _ (HT.out.keep E2.out)).mono ?_; rintro e w3 ⟨rfl, hb⟩; have H3 := Lib.hid hb; clear hb)
    go_ret
    exact ⟨rfl, etr E2.out H3.out⟩
  subst he
  have HE0 : putE L.els l r = 0 := HEN.out.2.symm
  obtain ⟨p1, p2, p3, p4, p5, p6, p7, p8⟩ := passes HE0
  rw [← HEN.out.1] at p1 p2 p7 p8
  have HOK := Lib.hid (putE_zero HE0).1
  have HIDLE : Hid (∀ (way : List Stp) (c : Int) (p : List Sgm), allF L.els way c a p = allF L.els way c l p) := fun way c p => by rw [HEN.out.1]; exact put_idle HE0
  obtain ⟨b, hbb⟩ : ∃ b, b = midR l (onR r) := ⟨_, rfl⟩
  rw [← hbb] at p2 p3 p4 p5
  have HP1 := Lib.hid (And.intro p1 (And.intro p2 (And.intro p3 (And.intro p4 (And.intro p5 (And.intro p6 (And.intro p7 p8)))))))
  have HBB := Lib.hid hbb
  have hll : l.length ≤ 40 := HFP.out.2.1
  have hal : a.length ≤ 41 := by rw [HEN.out.1, (putE_zero HE0).2.2.2]; have := plcR_le r.id l; simp; omega
  have hbl : b.length ≤ 41 := by rw [hbb]; unfold midR; have := plcR_le r.id l; simp; omega
  have HLEN := Lib.hid (And.intro hll (And.intro hal hbl))
  have hin : hasEl L.els r.el := ⟨HOK.out.2.2.1, HOK.out.2.2.2.1⟩
  have HIN := Lib.hid hin
  obtain ⟨kE, x, hel, hx, hxe⟩ := has_at hin
  have hxo := HFP.out.2.2.2.2 kE x hx
  obtain ⟨bE, oE, x', hAE, hx', hbE, e0, e1, e2, e3, e4, e5, e6⟩ := rd_el HL.out.hE E2.out (List.getElem?_eq_some_iff.1 hx).1
  rw [hx] at hx'
  cases hx'
  have hkE := (List.getElem?_eq_some_iff.1 hx).1
  have HXL : Hid (500 ≤ x.len ∧ x.len ≤ 1000000 ∧ (elAt L.els r.el).len = x.len) := ⟨hxo.2.2.1, hxo.2.2.2, by rw [hxe]⟩
  have hmE := HL.out.lE
  unfold maxLen at hmE
  clear p1 p2 p3 p4 p5 p6 p7 p8 hbb hin hx hxe hxo hll hal hbl HE0
  have L2 : Hid (LayAt w2 w.heap.size L) := L1.out.keep H2.out
  have R2 : Hid (RstAt w2 (w.heap.size + 1) r) := R1.out.keep H2.out
  obtain ⟨l0, a0, a1, a2, a3, a4, a5⟩ := layAt_cells L2.out
  obtain ⟨r0, b0, b1, b2, b3, b4, b5⟩ := rstAt_cells R2.out
  have hrel : r.el = (kE : Int) := hel
  have q4n : decide (L.els.length ≤ kE) = false := decide_eq_false (by omega)
  rw [hrel] at b1
  rw [hAE] at a2
  have HREL := Lib.hid hrel
  clear hrel hel hAE
  have hbE1 := lt_up2 hbE
  have l1 := lt_up2 l0
  have r1 := lt_up2 r0
  go_upto_region 8 with (fail)
  obtain ⟨w3, hw3⟩ : ∃ w3, w3 = (w2.alloc (.cells #[.int .i64 kE, .int .i64 0, .int .i64 1] 58)).alloc (.cells #[.int .i64 0, .int .i64 x.len, .int .i64 0, .int .i64 10000] 53) := ⟨_, rfl⟩
  rw [← hw3]
  have X3 : Hid (Ext w2 w3) := hw3 ▸ eal (eal (Ext.refl _) _) _
  have CW : Hid (CellsAt w3 w2.heap.size (List.flatMap Stc [⟨r.el, 0, 1⟩])) := by
    have : CellsAt w3 w2.heap.size [.int .i64 kE, .int .i64 0, .int .i64 1] := hw3 ▸ CellsAt.keep (CellsAt.new rfl) (eal (Ext.refl _) _)
    show CellsAt w3 w2.heap.size [.int .i64 r.el, .int .i64 0, .int .i64 1]
    rw [HREL.out]; exact this
  have CP : Hid (CellsAt w3 (w2.heap.size + 1) (List.flatMap Sgc [⟨0, x.len, 0, 10000⟩])) := hw3 ▸ CellsAt.new (by simp)
  clear hw3 l0 a0 a1 a2 a3 a4 a5 r0 b0 b1 b2 b3 b4 b5 e0 e1 e2 e3 e4 e5 e6 hbE hbE1 l1 r1 hkE q4n hmE
  have E3 : Hid (Ext w w3) := etr E2.out X3.out
  have R3 : Hid (RstAt w3 (w.heap.size + 1) r) := R2.out.keep X3.out
  have L3 : Hid (LayAt w3 w.heap.size L) := L2.out.keep X3.out
  have F2 : Hid (Rd w3 A2 6 Rsc a) := HR2.out.keep X3.out
  obtain ⟨r0, b0, b1, b2, b3, b4, b5⟩ := rstAt_cells R3.out
  go_upto_region 9 with (go_at_call 15; refine (set_ret (A := A2) (l := a) (c := c2) (id := r.id) (by have := HLEN.out.2.1; omega) HM2.out.2 F2.out HP1.out.1 HP1.out.2.1).mono ?_; rintro e w4 ⟨A4, c4, rfl, hr9, hm9, hc9, hb9⟩; have HB4 := Lib.hid hb9; have HR4 := Lib.hid hr9; have HM4 := Lib.hid (And.intro hm9 hc9); clear hb9 hr9 hm9 hc9)
  clear r0 b0 b1 b2 b3 b4 b5
  have X4 : Hid (Ext w3 w4) := HB4.out
  have R4 : Hid (RstAt w4 (w.heap.size + 1) r) := R3.out.keep X4.out
  obtain ⟨r0, b0, b1, b2, b3, b4, b5⟩ := rstAt_cells R4.out
  go_upto_region 10 with (go_at_call 15; refine (set_ret (A := A4) (l := b) (c := c4) (id := r.id) (by have := HLEN.out.2.2; omega) HM4.out.2 HR4.out HP1.out.2.2.1 rfl).mono ?_; rintro e w5 ⟨A5, c5, rfl, hr9, hm9, hc9, hb9⟩; have HB5 := Lib.hid hb9; have HR5 := Lib.hid hr9; have HM5 := Lib.hid (And.intro hm9 hc9); clear hb9 hr9 hm9 hc9)
  clear r0 b0 b1 b2 b3 b4 b5
  have X5 : Hid (Ext w3 w5) := etr X4.out HB5.out
  have R5 : Hid (RstAt w5 (w.heap.size + 1) r) := R3.out.keep X5.out
  obtain ⟨r0, b0, b1, b2, b3, b4, b5⟩ := rstAt_cells R5.out
  go_upto_region 11 with (go_at_call 15; refine (set_ret (A := A4) (l := b) (c := c4) (id := r.id) (by have := HLEN.out.2.2; omega) HM4.out.2 (HR4.out.keep HB5.out) HP1.out.2.2.2.1 HP1.out.2.2.2.2.1).mono ?_; rintro e w6 ⟨A6, c6, rfl, hr9, hm9, hc9, hb9⟩; have HB6 := Lib.hid hb9; have HR6 := Lib.hid hr9; have HM6 := Lib.hid (And.intro hm9 hc9); clear hb9 hr9 hm9 hc9)
  clear r0 b0 b1 b2 b3 b4 b5
  have X6 : Hid (Ext w3 w6) := etr X5.out HB6.out
  have R6 : Hid (RstAt w6 (w.heap.size + 1) r) := R3.out.keep X6.out
  obtain ⟨r0, b0, b1, b2, b3, b4, b5⟩ := rstAt_cells R6.out
  go_upto_region 12 with (go_at_call 15; refine (set_ret (A := A6) (l := l) (c := c6) (id := r.id) (by have := HLEN.out.1; omega) HM6.out.2 HR6.out HP1.out.2.2.2.2.2.1 rfl).mono ?_; rintro e w7 ⟨A7, c7, rfl, hr9, hm9, hc9, hb9⟩; have HB7 := Lib.hid hb9; have HR7 := Lib.hid hr9; have HM7 := Lib.hid (And.intro hm9 hc9); clear hb9 hr9 hm9 hc9)
  clear r0 b0 b1 b2 b3 b4 b5
  have X7 : Hid (Ext w3 w7) := etr X6.out HB7.out
  have R7 : Hid (RstAt w7 (w.heap.size + 1) r) := R3.out.keep X7.out
  obtain ⟨r0, b0, b1, b2, b3, b4, b5⟩ := rstAt_cells R7.out
  go_upto_region 13 with (go_at_call 15; refine (set_ret (A := A2) (l := a) (c := c2) (id := r.id) (by have := HLEN.out.2.1; omega) HM2.out.2 (F2.out.keep X7.out) HP1.out.2.2.2.2.2.2.1 HP1.out.2.2.2.2.2.2.2).mono ?_; rintro e w8 ⟨A8, c8, rfl, hr9, hm9, hc9, hb9⟩; have HB8 := Lib.hid hb9; have HR8 := Lib.hid hr9; have HM8 := Lib.hid (And.intro hm9 hc9); clear hb9 hr9 hm9 hc9)
  clear r0 b0 b1 b2 b3 b4 b5
  have X8 : Hid (Ext w3 w8) := etr X7.out HB8.out
  have R8 : Hid (RstAt w8 (w.heap.size + 1) r) := R3.out.keep X8.out
  have hsame : sml_rs l l = true := sml_rs_true.2 rfl
  have HSS := Lib.hid hsame
  clear hsame
  have G6 : Hid (Rd w8 A6 6 Rsc l) := (HR6.out.keep HB7.out).keep HB8.out
  have G8 := HR8
  have GL : Hid (Rd w8 Al 6 Rsc l) := HRL.out.1.keep (etr E3.out X8.out)
  have ZZ : Hid (Ext w8 w8) := Ext.refl _
  go_upto_region 15 with (go_at_call 14; refine (same_rs _ _ l l _ _ _ HRL.out.2.1 HRL.out.2.1 ?_ ?_).mono ?_; (first | exact G6.out.keep ZZ.out | exact G8.out.keep ZZ.out); exact GL.out.keep ZZ.out; rw [HSS.out]; rintro e w9 ⟨rfl, hb9⟩; have ZZ : Hid (Ext w8 w9) := etr ZZ.out hb9; clear hb9)
  have E9 : Hid (Ext w w9) := etr (etr E3.out X8.out) ZZ.out
  have X9 : Hid (Ext w3 w9) := etr X8.out ZZ.out
  obtain ⟨q0, hq0⟩ : ∃ q0, q0 = appL L.els L.jts l [⟨r.el, 0, 1⟩] 0 [⟨0, x.len, 0, 10000⟩] := ⟨_, rfl⟩
  obtain ⟨q2, hq2⟩ : ∃ q2, q2 = appL L.els L.jts b [⟨r.el, 0, 1⟩] 0 [⟨0, x.len, 0, 10000⟩] := ⟨_, rfl⟩
  have hqa : q0 = appL L.els L.jts a [⟨r.el, 0, 1⟩] 0 [⟨0, x.len, 0, 10000⟩] := by
    have h1 := HXL.out.1
    have h2 := HXL.out.2.1
    rw [hq0, app_one HFP.out.2.2.2.2 HIN.out (by omega) (by omega), app_one HFP.out.2.2.2.2 HIN.out (by omega) (by omega), HIDLE.out]
  have HSLOW : Hid (q2 = [] ∨ (q2 ≠ [] ∧ slowV q2 r.from_ (r.to_ - 1) ≤ r.speed)) := by
    have h1 := HXL.out.1
    have h2 := HXL.out.2.1
    by_cases h0 : q2 = []
    · exact .inl h0
    · refine .inr ⟨h0, ?_⟩
      rw [hq2, app_one HFP.out.2.2.2.2 HIN.out (by omega) (by omega), HBB.out] at h0 ⊢
      exact pass_slow HOK.out HXL.out.2.2 (by omega) (by omega) h0
  have HAPP : Hid (∀ (A' : Option Addr) (lst : List Rst) (c' : Nat) (q : List Sgm) (w' : World), Ext w3 w' → Rd w' A' 6 Rsc lst → lst.length ≤ maxLen → q = appL L.els L.jts lst [⟨r.el, 0, 1⟩] 0 [⟨0, x.len, 0, 10000⟩] → Calls Tryd.prog 19 #[.slice A' lst.length c', .slice (some ⟨w2.heap.size, 0, none⟩) 1 1, .int .i64 0, .agg #[.string L.name, .slice L.aS L.secs.length L.cS, .slice L.aE L.els.length L.cE, .slice L.aJ L.jts.length L.cJ, .slice L.aG L.sgs.length L.cG, .slice L.aB L.bals.length L.cB], .slice (some ⟨w2.heap.size + 1, 0, none⟩) 1 1] w' (RetQ q w')) := fun A' lst c' q w' h hr hlm hq => by
    subst hq
    exact apply_any L A' lst c' (some ⟨w2.heap.size, 0, none⟩) [⟨r.el, 0, 1⟩] 1 0 (some ⟨w2.heap.size + 1, 0, none⟩) [⟨0, x.len, 0, 10000⟩] 1 w' (HL.out.keep (etr E3.out h)) (HT.out.keep (etr E3.out h)) HFP.out.2.2.2.2 hr hlm (rd_cells Stc_len (CW.out.keep h)) (by show (1 : Nat) ≤ maxLen; unfold maxLen; decide) (by simp) (rd_cells Sgc_len (CP.out.keep h)) (by simp)
  have HQ0 := Lib.hid hq0
  have HQA := Lib.hid hqa
  have HQ2 := Lib.hid hq2
  clear hq0 hqa hq2
  obtain ⟨l0, a0, a1, a2, a3, a4, a5⟩ := layAt_cells (L3.out.keep X9.out)
  refine wp_region_mono [0, 1, 2, 3, 5, 6, 7, 8] 4 (by kernel_rfl) (by kernel_rfl) (fun _ _ d _ _ h => by cases d <;> exact h) (by kernel_rfl) (by kernel_rfl) ?_
  repeat (refine wpE_step rfl (fun K hK => ?_); go_simp; (refine hK _ ?_; clear hK K))
  refine wpE_nil ?_
  intro y
  clear l0 a0 a1 a2 a3 a4 a5
  have XY : Hid (Ext w3 y.val) := etr X9.out y.is
  refine wpAnyR_ready (rs := [4]) (by kernel_rfl) (by simp) (AllR.cons rfl (fun K hK => ?_) AllR.nil)
  go_simp
  go_wp2_with (go_at_call 19; refine (HAPP.out Al l cl q0 _ XY.out (HRL.out.1.keep (etr E3.out XY.out)) HRL.out.2.1 HQ0.out).mono ?_; rintro e w10 ⟨A10, c10, rfl, hr9, hm9, hb9⟩; have HR10 := Lib.hid hr9; have HM10 := Lib.hid hm9; have HB10 := Lib.hid hb9; clear hr9 hm9 hb9)
  refine hK _ _ HB10.out (fun y2 => ?_)
  clear hK K
  have XY2 : Hid (Ext w3 y2.val) := etr (etr XY.out HB10.out) y2.is
  refine wpAnyR_ready (rs := [9]) (by kernel_rfl) (by simp) (AllR.cons rfl (fun K hK => ?_) AllR.nil)
  go_simp
  go_wp2_with (go_at_call 19; refine (HAPP.out A2 a c2 q0 _ XY2.out (F2.out.keep XY2.out) HM2.out.1 HQA.out).mono ?_; rintro e w11 ⟨A11, c11, rfl, hr9, hm9, hb9⟩; have HR11 := Lib.hid hr9; have HB11 := Lib.hid hb9; clear hr9 hm9 hb9)
  refine hK _ _ HB11.out (fun y3 => ?_)
  clear hK K
  refine wpAnyR_more [10, 11] (fuel := 0) (by kernel_rfl) (fun _ _ d _ _ h => by cases d <;> exact h) (by kernel_rfl) rfl ?_
  repeat (refine wpE_step rfl (fun K hK => ?_); go_simp; (refine hK _ ?_; clear hK K))
  refine wpE_nil ?_
  intro y4
  refine wpAnyR_done (by kernel_rfl) ?_ _
  obtain ⟨w12, hw12⟩ : ∃ w12, w12 = y4.val := ⟨_, rfl⟩
  have XA : Hid (Ext w10 w12) := hw12 ▸ etr (etr (etr y2.is HB11.out) y3.is) y4.is
  have XB : Hid (Ext w11 w12) := hw12 ▸ etr y3.is y4.is
  have X12 : Hid (Ext w3 w12) := etr (etr XY.out HB10.out) XA.out
  rw [← hw12]
  clear hw12
  obtain ⟨l0, a0, a1, a2, a3, a4, a5⟩ := layAt_cells (L3.out.keep X12.out)
  go_upto_region 17 with (go_at_call 19; refine (HAPP.out A4 b c4 q2 _ X12.out (((((HR4.out.keep HB5.out).keep HB6.out).keep HB7.out).keep HB8.out).keep (etr (etr (etr ZZ.out y.is) HB10.out) XA.out)) HM4.out.1 HQ2.out).mono ?_; rintro e w13 ⟨A13, c13, rfl, hr9, hm9, hb9⟩; have HR13 := Lib.hid hr9; have HM13 := Lib.hid hm9; have HB13 := Lib.hid hb9; clear hr9 hm9 hb9)
  clear l0 a0 a1 a2 a3 a4 a5
  have X13 : Hid (Ext w3 w13) := etr X12.out HB13.out
  have E13 : Hid (Ext w w13) := etr E3.out X13.out
  have S0 : Hid (Rd w13 A10 4 Sgc q0) := (HR10.out.keep XA.out).keep HB13.out
  have S1 : Hid (Rd w13 A11 4 Sgc q0) := (HR11.out.keep XB.out).keep HB13.out
  have HSL : Hid (sameL q0 q0 = true) := sameL_true.2 rfl
  have HML : Hid (q0.length ≤ maxLen) := by have := HM10.out; show _ ≤ _; unfold maxLen; omega
  obtain ⟨r0, b0, b1, b2, b3, b4, b5⟩ := rstAt_cells (R3.out.keep X13.out)
  have ho := HOK.out
  have w9w : IntKind.i64.wrap (r.to_ - 1) = r.to_ - 1 := by
    have h1 := ho.2.2.2.2.1
    have h2 := ho.2.2.2.2.2.1
    have h3 := ho.2.2.2.2.2.2.1
    have h4 := HXL.out.2.1
    rw [HXL.out.2.2] at h3
    exact IntWalk.i64_in _ (by omega)
  clear ho
  rcases HSLOW.out with h0 | ⟨h0, hs⟩
  · have q1 : ((q2.length : Int) == 0) = true := by simp [h0]
    clear h0
    refine wp_region_after (by kernel_rfl) (by kernel_rfl) ?_
    repeat (first | go_big_quiet_step (first
      | (go_at_call 18; exact after_call _ (HSL.out ▸ same_any A10 A11 q0 q0 c10 c11 _ HML.out HML.out (S0.out.keep (After.is _)) (S1.out.keep (After.is _))))
      | (go_at_call 25; exact after_call _ (rslow_any A13 q2 c13 r.from_ (r.to_ - 1) _ HM13.out (HR13.out.keep (After.is _))))
      | (go_at_call 9; exact after_call _ (alive_any _ (HT.out.keep (etr E13.out (After.is _)))))))
    refine wpQuiet_nil ?_
    rintro _ ⟨z, rfl⟩
    go_wp2
    go_ret
    exact ⟨rfl, etr E13.out z.is⟩
  · have q1 : ((q2.length : Int) == 0) = false := by simpa using h0
    have q3 : decide (slowV q2 r.from_ (r.to_ - 1) ≤ r.speed) = true := decide_eq_true hs
    clear h0 hs
    refine wp_region_after (by kernel_rfl) (by kernel_rfl) ?_
    repeat (first | go_big_quiet_step (first
      | (go_at_call 18; exact after_call _ (HSL.out ▸ same_any A10 A11 q0 q0 c10 c11 _ HML.out HML.out (S0.out.keep (After.is _)) (S1.out.keep (After.is _))))
      | (go_at_call 25; exact after_call _ (rslow_any A13 q2 c13 r.from_ (r.to_ - 1) _ HM13.out (HR13.out.keep (After.is _))))
      | (go_at_call 9; exact after_call _ (alive_any _ (HT.out.keep (etr E13.out (After.is _)))))))
    refine wpQuiet_nil ?_
    rintro _ ⟨z, rfl⟩
    go_wp2
    go_ret
    exact ⟨rfl, etr E13.out z.is⟩
end Go.Proofs.YtacnfchoemndeaaDoor
