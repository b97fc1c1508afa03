/- Walk of restriction.lowered. -/
import Derived.Test.YtacnfchoemndeaaDoorWLayF
import Derived.Test.YtacnfchoemndeaaDoorWProfI
import Derived.WalkLawsBesides
set_option linter.unusedVariables false
set_option linter.unusedSimpArgs false
set_option maxRecDepth 100000
namespace Go.Proofs.YtacnfchoemndeaaDoor
open Go.ChangeShapes Go.WideShapes Go.ChangeAt Go.RowKit
open Sg

/-- The elements are as a valid layout's. -/
def ElsOk (els : List Elm) : Prop := ∀ (k : Nat) x, els[k]? = some x → 1 ≤ x.kind ∧ x.kind ≤ 3 ∧ 500 ≤ x.len ∧ x.len ≤ 1000000
def WayIn (els : List Elm) (way : List Stp) : Prop := ∀ (k : Nat) s, way[k]? = some s → hasEl els s.el
theorem has_at {els : List Elm} {el : Int} (h : hasEl els el) : ∃ (k : Nat) (x : Elm), el = (k : Int) ∧ els[k]? = some x ∧ elAt els el = x := by
  obtain ⟨h1, h2⟩ := h
  obtain ⟨k, rfl⟩ : ∃ k : Nat, el = (k : Int) := ⟨el.toNat, by omega⟩
  exact ⟨k, _, rfl, List.getElem?_eq_getElem (by omega), elAt_of (List.getElem?_eq_getElem (by omega))⟩
theorem beg_bound {els : List Elm} {way : List Stp} {c : Int} (he : ElsOk els) (hw : WayIn els way) : ∀ {k : Nat}, k ≤ way.length → c ≤ begF els way c k ∧ begF els way c k ≤ c + 1000000 * k
  | 0, _ => by simp [begF]
  | k + 1, h => by
    have ih := beg_bound (c := c) he hw (k := k) (by omega)
    have hs : way[k]? = some way[k] := List.getElem?_eq_getElem (by omega)
    rw [begF_succ hs]
    obtain ⟨j, x, _, hx, e⟩ := has_at (hw k _ hs)
    have := he j x hx
    rw [e]
    omega
theorem OwnL.rdn {α : Type} {w : World} {base : Nat} {e : TypeId} {k : Nat} {enc : α → List Value} {v : Value} {xs : List α} (hk : ∀ x, (enc x).length = k) (h : OwnL w base e k enc v xs) : ∃ A cap, v = .slice A xs.length cap ∧ Rd w A k enc xs ∧ xs.length ≤ maxLen ∧ ∀ a, A = some a → base ≤ a.block := by
  obtain ⟨A, cap, rfl, hr, hm⟩ := h.rd hk
  exact ⟨A, cap, rfl, hr, hm, fun a ha => by subst ha; exact (h.lt a.block rfl).1⟩
theorem Rd.only {α : Type} {v w : World} {A : Option Addr} {k b : Nat} {enc : α → List Value} {xs : List α} (h : Rd v A k enc xs) (g : Only b v w) (hb : ∀ a, A = some a → a.block ≠ b) : Rd w A k enc xs := fun h0 => by
  obtain ⟨c, off, e, h1, h2⟩ := h h0
  exact ⟨c, off, e, by rw [g.size]; exact h1, fun i x hi j u hj => (World.cell?_of_block (w := v) (a := ⟨c, off + i * k + j, none⟩) (g.block c (hb _ e))).trans (h2 i x hi j u hj)⟩
theorem limL_le (p : List Sgm) (f t v : Int) : (limL p f t v).length ≤ 128 := by
  unfold limL
  split
  · split
    · assumption
    · simp
  · simp
def LowDead (els : List Elm) (r : Rst) (way : List Stp) (c : Int) (p : List Sgm) : Prop := p ≠ [] ∧ lowF els r way c p = []
abbrev RstAt (w : World) (b : Nat) (r : Rst) : Prop := CellsAt w b (Rsc r)
theorem rstAt_cells {w : World} {b : Nat} {r : Rst} (h : RstAt w b r) : b < w.heap.size ∧ w.cell? ⟨b, 0, none⟩ = some (.int .i64 r.id) ∧ w.cell? ⟨b, 1, none⟩ = some (.int .i64 r.el) ∧ w.cell? ⟨b, 2, none⟩ = some (.int .i64 r.from_) ∧ w.cell? ⟨b, 3, none⟩ = some (.int .i64 r.to_) ∧ w.cell? ⟨b, 4, none⟩ = some (.int .i64 r.speed) ∧ w.cell? ⟨b, 5, none⟩ = some (.bool r.act) := ⟨h.1, h.2 0 _ rfl, h.2 1 _ rfl, h.2 2 _ rfl, h.2 3 _ rfl, h.2 4 _ rfl, h.2 5 _ rfl⟩
theorem rd_el_at {w wr : World} {b off k : Nat} {p : List Elm} {s : Elm} (h : Rd w (some ⟨b, off, none⟩) 7 Elc p) (hb : Ext w wr) (hs : p[k]? = some s) : b < wr.heap.size ∧ wr.cell? ⟨b, off + k * 7, none⟩ = some (.string s.name) ∧ wr.cell? ⟨b, off + k * 7 + 1, none⟩ = some (.int .i64 s.kind) ∧ wr.cell? ⟨b, off + k * 7 + 1 + 1, none⟩ = some (.int .i64 s.len) ∧ wr.cell? ⟨b, off + k * 7 + 1 + 1 + 1, none⟩ = some (.int .i64 s.grade) ∧ wr.cell? ⟨b, off + k * 7 + 1 + 1 + 1 + 1, none⟩ = some (.int .i64 s.speed) ∧ wr.cell? ⟨b, off + k * 7 + 1 + 1 + 1 + 1 + 1, none⟩ = some (.int .i64 s.slow) ∧ wr.cell? ⟨b, off + k * 7 + 1 + 1 + 1 + 1 + 1 + 1, none⟩ = some (.int .i64 s.sec) := by
  obtain ⟨b', off', s', e, hs', h0, h1, h2, h3, h4, h5, h6, h7⟩ := rd_el h hb (List.getElem?_eq_some_iff.1 hs).1
  cases e
  rw [hs] at hs'
  cases hs'
  exact ⟨h0, h1, h2, h3, h4, h5, h6, h7⟩
theorem fwd_key (els : List Elm) (s : Stp) (x : Elm) (hx : elAt els s.el = x) : (fwdS els s = true ∧ ((s.in_ == 0) = true ∨ ((s.in_ == 0) = false ∧ (s.in_ == 2) = true ∧ (x.kind == 3) = true))) ∨ (fwdS els s = false ∧ (((s.in_ == 0) = false ∧ (s.in_ == 2) = true ∧ (x.kind == 3) = false) ∨ ((s.in_ == 0) = false ∧ (s.in_ == 2) = false))) := by
  unfold fwdS
  rw [hx]
  cases (s.in_ == 0) <;> cases (s.in_ == 2) <;> cases (x.kind == 3) <;> simp
set_option maxHeartbeats 16000000 in
theorem lowered_any (L : Lay) (A : Option Addr) (way : List Stp) (c : Nat) (c0 : Int) (B : Option Addr) (p : List Sgm) (cp : Nat) (r : Rst) (w : World) (hL : LayOk w L) (hE : ElsOk L.els) (hW : WayIn L.els way) (hr : Rd w A 3 Stc way) (hwl : way.length ≤ 64) (hc1 : -1073741824 ≤ c0) (hc2 : c0 ≤ 1073741824) (hp : Rd w B 4 Sgc p) (hpl : p.length ≤ 1000000) (hok : OkR L.els r) (nb : Nat) (hnb : nb < w.heap.size) (hB : ∀ a, B = some a → a.block ≠ nb) :
    Calls Tryd.prog 38 #[.agg #[.string L.name, .slice L.aS L.secs.length L.cS, .slice L.aE L.els.length L.cE, .slice L.aJ L.jts.length L.cJ, .slice L.aG L.sgs.length L.cG, .slice L.aB L.bals.length L.cB], .slice A way.length c, .int .i64 c0, .slice B p.length cp, .agg #[.int .i64 r.id, .int .i64 r.el, .int .i64 r.from_, .int .i64 r.to_, .int .i64 r.speed, .bool r.act]] w fun e w' => Below w.heap.size w w' ∧ ((¬ LowDead L.els r way c0 p ∧ ∃ A' cap', e = .returned (.slice A' (lowF L.els r way c0 p).length cap') ∧ Rd w' A' 4 Sgc (lowF L.els r way c0 p) ∧ (lowF L.els r way c0 p).length ≤ 1000000 ∧ ∀ a, A' = some a → a.block ≠ nb) ∨ (LowDead L.els r way c0 p ∧ e = .panicked [{ v := .iface 91 (.agg #[]), recovered := false }])) := by
  have HL := Lib.hid hL
  have HE := Lib.hid hE
  have HW := Lib.hid hW
  have HR := Lib.hid hr
  have HP := Lib.hid hp
  have HPL := Lib.hid hpl
  have HOK := Lib.hid hok
  have HBN := Lib.hid hB
  have HNB := Lib.hid hnb
  clear hB hnb
  have hmE := hL.lE
  unfold maxLen at hmE
  clear hL hE hW hr hp hpl
  obtain ⟨o1, o2, o3, o4, o5, o6, o7, o8, o9⟩ := hok
  have hrl : (elAt L.els r.el).len ≤ 1000000 := by
    obtain ⟨j, x, _, hx, e⟩ := has_at (els := L.els) (el := r.el) ⟨o3, o4⟩
    have := HE.out j x hx
    rw [e]; exact this.2.2.2
  have o10 : r.to_ ≤ 1000000 := by omega
  clear o1 o2 o3 o4 o7 hrl
  go_enter Tryd.func38, Tryd.ntmps38
  go_wp2
  go_loopg [3, 11, 22] way.length (fun g x3 x11 ix wr => ∃ (k : Nat) (c1 : Int) (A' : Option Addr) (q : List Sgm) (cq : Nat), ix = .int .i64 k ∧ x11 = .int .i64 c1 ∧ x3 = .slice A' q.length cq ∧ k ≤ way.length ∧ g = way.length - k ∧ Hid (Ext w wr ∧ LayAt wr w.heap.size L ∧ RstAt wr (w.heap.size + 1) r ∧ Rd wr A' 4 Sgc q ∧ q.length ≤ 1000000 ∧ c1 = begF L.els way c0 k ∧ q = lowTo L.els r way c0 k p ∧ (q = [] → p = []) ∧ ∀ a, A' = some a → a.block ≠ nb))
  case atStart =>
    refine ⟨0, c0, B, p, cp, rfl, rfl, rfl, by omega, by omega, eal (eal (Ext.refl _) _) _, CellsAt.keep (CellsAt.new rfl) (eal (Ext.refl _) _), ?_, HP.out.keep (eal (eal (Ext.refl _) _) _), HPL.out, rfl, rfl, fun h => h, HBN.out⟩
    have := CellsAt.new (w := w.alloc (.cells #[.string L.name, .slice L.aS L.secs.length L.cS, .slice L.aE L.els.length L.cE, .slice L.aJ L.jts.length L.cJ, .slice L.aG L.sgs.length L.cG, .slice L.aB L.bals.length L.cB] 28)) (cs := (Rsc r).toArray) (t := 31) (b := w.heap.size + 1) (by simp)
    exact this
  case round =>
    obtain ⟨k, c1, A', q, cq, rfl, rfl, rfl, hk, hg, H⟩ := hrel
    have HG := Lib.hid hg
    clear hg
    have hb := beg_bound (c := c0) HE.out HW.out hk
    rw [← H.out.2.2.2.2.2.1] at hb
    obtain ⟨hb1, hb2⟩ := hb
    have hb3 : -1073741824 ≤ c1 := by omega
    have hb4 : c1 ≤ 1073741824 + 64000000 := by omega
    clear hb1 hb2
    by_cases hlt : k < way.length
    · obtain ⟨b, off, s, rfl, hs, hbs, s0, s1, s2⟩ := rd_st HR.out H.out.1 hlt
      have HS := Lib.hid hs
      obtain ⟨kE, x, hel, hx, hxe⟩ := has_at (HW.out k s hs)
      have HXE := Lib.hid hxe
      have hXB := HE.out kE x hx
      have hx1 := hXB.2.2.1
      have hx2 := hXB.2.2.2
      clear hXB
      obtain ⟨bE, oE, x', hA, hx', hbE, e0, e1, e2, e3, e4, e5, e6⟩ := rd_el HL.out.hE H.out.1 (List.getElem?_eq_some_iff.1 hx).1
      rw [hx] at hx'
      cases hx'
      have hkE := (List.getElem?_eq_some_iff.1 hx).1
      obtain ⟨l0, a0, a1, a2, a3, a4, a5⟩ := layAt_cells H.out.2.1
      obtain ⟨r0, z0, z1, z2, z3, z4, z5⟩ := rstAt_cells H.out.2.2.1
      have HAE := Lib.hid hA
      rw [hA] at a2
      clear hs hx hxe hA
      obtain ⟨sel, sin, sout⟩ := s
      obtain rfl : sel = (kE : Int) := hel
      have qN : decide (L.els.length ≤ kE) = false := decide_eq_false (by omega)
      have hbs1 : b < wr.heap.size + 1 := by omega
      have hbE1 : bE < wr.heap.size + 1 := by omega
      have hbE2 : bE < wr.heap.size + 1 + 1 := by omega
      have l1 : w.heap.size < wr.heap.size + 1 := by omega
      have l2 : w.heap.size < wr.heap.size + 1 + 1 := by omega
      have r1 : w.heap.size + 1 < wr.heap.size + 1 := by omega
      have r2 : w.heap.size + 1 < wr.heap.size + 1 + 1 := by omega
      simp only [] at s0 s1 s2 HS HXE
      have E1 : Hid (Ext wr ((wr.alloc (.cells #[.int .i64 kE, .int .i64 sin, .int .i64 sout] 58)).alloc (.cells #[.string x.name, .int .i64 x.kind, .int .i64 x.len, .int .i64 x.grade, .int .i64 x.speed, .int .i64 x.slow, .int .i64 x.sec] 60))) := eal (eal (Ext.refl _) _) _
      by_cases hc : (kE : Int) = r.el
      · have hq : ((kE : Int) == r.el) = true := by simpa using hc
        have HC := Lib.hid hc
        clear hc
        rcases fwd_key L.els ⟨kE, sin, sout⟩ x HXE.out with ⟨hf, hkey⟩ | ⟨hf, hkey⟩
        · obtain ⟨f, hff⟩ : ∃ f, f = c1 + r.from_ := ⟨_, rfl⟩
          obtain ⟨t, htt⟩ : ∃ t, t = c1 + r.to_ := ⟨_, rfl⟩
          obtain ⟨nx, hnx⟩ : ∃ nx, nx = limL q f t r.speed := ⟨_, rfl⟩
          have hnl : nx.length ≤ 128 := hnx ▸ limL_le q f t r.speed
          have hql : q.length ≤ 1000000 := H.out.2.2.2.2.1
          have HN : Hid (nx = lowTo L.els r way c0 (k + 1) p) := by
            show _ = _
            rw [lowTo_succ HS.out, if_pos HC.out, ← H.out.2.2.2.2.2.2.1, ← H.out.2.2.2.2.2.1, hnx, hff, htt]
            unfold partA partZ
            simp only [hf, if_true, if_false, Bool.false_eq_true, HXE.out]
          have HB : Hid (c1 + x.len = begF L.els way c0 (k + 1)) := by
            show _ = _
            rw [begF_succ HS.out, ← H.out.2.2.2.2.2.1, HXE.out]
          have HNX := Lib.hid hnx
          clear hnx hf
          have w1 : IntKind.i64.wrap (c1 + x.len) = c1 + x.len := IntWalk.i64_in _ (by omega)
          have w2 : IntKind.i64.wrap (c1 + x.len - r.to_) = c1 + x.len - r.to_ := IntWalk.i64_in _ (by omega)
          have w3 : IntKind.i64.wrap (c1 + x.len - r.from_) = c1 + x.len - r.from_ := IntWalk.i64_in _ (by omega)
          have w4 : IntKind.i64.wrap (c1 + r.to_) = c1 + r.to_ := IntWalk.i64_in _ (by omega)
          have w5 : IntKind.i64.wrap (c1 + r.from_) = c1 + r.from_ := IntWalk.i64_in _ (by omega)
          subst hff htt
          by_cases h1 : nx = []
          · have n1 : ((nx.length : Int) == 0) = true := by simp [h1]
            by_cases h2 : q = []
            · have n2 : decide ((0 : Int) < (q.length : Int)) = false := by simp [h2]
              have n5 : decide (0 < q.length) = false := by simp [h2]
              have HX : Hid (nx = [] → p = []) := fun _ => H.out.2.2.2.2.2.2.2.1 h2
              clear h1 h2
              rcases hkey with k1 | ⟨k1, k2, k3⟩
              all_goals go_wp2
              all_goals refine wp_region_after (by kernel_rfl) (by kernel_rfl) ?_
              all_goals repeat (first | go_big_quiet_step (fail))
              all_goals refine wpQuiet_nil ?_
              all_goals rintro _ ⟨y, rfl⟩
              all_goals go_wp2
              all_goals refine wp_region_in y (by kernel_rfl) (by kernel_rfl) ?_
              all_goals repeat (first | go_big_quiet_step (fail))
              all_goals refine wpQuiet_nil ?_
              all_goals rintro _ ⟨z, rfl⟩
              all_goals have E2 : Hid (Ext wr z.val) := etr E1.out z.is
              all_goals go_wp2_with (go_at_call 53; refine (limit_any A' q cq _ _ r.speed _ hql (H.out.2.2.2.1.keep E2.out)).mono ?_; rintro e w' ⟨v, rfl, ho, hb⟩; rw [← HNX.out] at ho; obtain ⟨A2, cap2, rfl, hr2, hm2, hg2⟩ := OwnL.rdn Sgc_len ho; have HR2 := Lib.hid hr2; have HN2 : Hid (∀ a, A2 = some a → a.block ≠ nb) := fun a ha => Nat.ne_of_gt (Nat.lt_of_lt_of_le (Nat.lt_of_lt_of_le HNB.out (etr H.out.1 E2.out).size) (hg2 a ha)); have HB2 := Lib.hid hb; clear ho hr2 hm2 hg2 hb)
              all_goals go_roundg (way.length - (k + 1))
              all_goals first | (have := HG.out; omega) | exact ⟨k + 1, c1 + x.len, A2, nx, cap2, by go_num, rfl, rfl, by omega, rfl, etr H.out.1 (etr E2.out HB2.out), H.out.2.1.keep (etr E2.out HB2.out), H.out.2.2.1.keep (etr E2.out HB2.out), HR2.out, by omega, HB.out, HN.out, HX.out, HN2.out⟩
            · have n2 : decide ((0 : Int) < (q.length : Int)) = true := decide_eq_true (by have := List.length_pos_iff.2 h2; omega)
              have n5 : 0 < q.length := List.length_pos_iff.2 h2
              have n6 : (0 : Int) < (q.length : Int) := by omega
              have HD : Hid (LowDead L.els r way c0 p) := ⟨fun h => h2 (by rw [H.out.2.2.2.2.2.2.1, h]; exact lowF_nil _ _ _ _), lowTo_dead (k := k + 1) (by rw [← HN.out]; exact h1) (by omega)⟩
              clear h1 h2
              rcases hkey with k1 | ⟨k1, k2, k3⟩
              all_goals go_wp2
              all_goals refine wp_region_after (by kernel_rfl) (by kernel_rfl) ?_
              all_goals repeat (first | go_big_quiet_step (fail))
              all_goals refine wpQuiet_nil ?_
              all_goals rintro _ ⟨y, rfl⟩
              all_goals go_wp2
              all_goals refine wp_region_in y (by kernel_rfl) (by kernel_rfl) ?_
              all_goals repeat (first | go_big_quiet_step (fail))
              all_goals refine wpQuiet_nil ?_
              all_goals rintro _ ⟨z, rfl⟩
              all_goals have E2 : Hid (Ext wr z.val) := etr E1.out z.is
              all_goals go_wp2_with (go_at_call 53; refine (limit_any A' q cq _ _ r.speed _ hql (H.out.2.2.2.1.keep E2.out)).mono ?_; rintro e w' ⟨v, rfl, ho, hb⟩; rw [← HNX.out] at ho; obtain ⟨A2, cap2, rfl, hr2, hm2, hg2⟩ := OwnL.rdn Sgc_len ho; have HR2 := Lib.hid hr2; have HN2 : Hid (∀ a, A2 = some a → a.block ≠ nb) := fun a ha => Nat.ne_of_gt (Nat.lt_of_lt_of_le (Nat.lt_of_lt_of_le HNB.out (etr H.out.1 E2.out).size) (hg2 a ha)); have HB2 := Lib.hid hb; clear ho hr2 hm2 hg2 hb)
              all_goals (try simp only [Exit.inBlock, Exit.then])
              all_goals exact ⟨rfl, etr H.out.1 (etr E2.out HB2.out), .inr ⟨HD.out, rfl⟩⟩
          · have n1 : ((nx.length : Int) == 0) = false := by simpa using h1
            have HX : Hid (nx = [] → p = []) := fun h => absurd h h1
            clear h1
            rcases hkey with k1 | ⟨k1, k2, k3⟩
            all_goals go_wp2
            all_goals refine wp_region_after (by kernel_rfl) (by kernel_rfl) ?_
            all_goals repeat (first | go_big_quiet_step (fail))
            all_goals refine wpQuiet_nil ?_
            all_goals rintro _ ⟨y, rfl⟩
            all_goals go_wp2
            all_goals refine wp_region_in y (by kernel_rfl) (by kernel_rfl) ?_
            all_goals repeat (first | go_big_quiet_step (fail))
            all_goals refine wpQuiet_nil ?_
            all_goals rintro _ ⟨z, rfl⟩
            all_goals have E2 : Hid (Ext wr z.val) := etr E1.out z.is
            all_goals go_wp2_with (go_at_call 53; refine (limit_any A' q cq _ _ r.speed _ hql (H.out.2.2.2.1.keep E2.out)).mono ?_; rintro e w' ⟨v, rfl, ho, hb⟩; rw [← HNX.out] at ho; obtain ⟨A2, cap2, rfl, hr2, hm2, hg2⟩ := OwnL.rdn Sgc_len ho; have HR2 := Lib.hid hr2; have HN2 : Hid (∀ a, A2 = some a → a.block ≠ nb) := fun a ha => Nat.ne_of_gt (Nat.lt_of_lt_of_le (Nat.lt_of_lt_of_le HNB.out (etr H.out.1 E2.out).size) (hg2 a ha)); have HB2 := Lib.hid hb; clear ho hr2 hm2 hg2 hb)
            all_goals go_roundg (way.length - (k + 1))
            all_goals first | (have := HG.out; omega) | exact ⟨k + 1, c1 + x.len, A2, nx, cap2, by go_num, rfl, rfl, by omega, rfl, etr H.out.1 (etr E2.out HB2.out), H.out.2.1.keep (etr E2.out HB2.out), H.out.2.2.1.keep (etr E2.out HB2.out), HR2.out, by omega, HB.out, HN.out, HX.out, HN2.out⟩
        · obtain ⟨f, hff⟩ : ∃ f, f = c1 + x.len - r.to_ := ⟨_, rfl⟩
          obtain ⟨t, htt⟩ : ∃ t, t = c1 + x.len - r.from_ := ⟨_, rfl⟩
          obtain ⟨nx, hnx⟩ : ∃ nx, nx = limL q f t r.speed := ⟨_, rfl⟩
          have hnl : nx.length ≤ 128 := hnx ▸ limL_le q f t r.speed
          have hql : q.length ≤ 1000000 := H.out.2.2.2.2.1
          have HN : Hid (nx = lowTo L.els r way c0 (k + 1) p) := by
            show _ = _
            rw [lowTo_succ HS.out, if_pos HC.out, ← H.out.2.2.2.2.2.2.1, ← H.out.2.2.2.2.2.1, hnx, hff, htt]
            unfold partA partZ
            simp only [hf, if_true, if_false, Bool.false_eq_true, HXE.out]
          have HB : Hid (c1 + x.len = begF L.els way c0 (k + 1)) := by
            show _ = _
            rw [begF_succ HS.out, ← H.out.2.2.2.2.2.1, HXE.out]
          have HNX := Lib.hid hnx
          clear hnx hf
          have w1 : IntKind.i64.wrap (c1 + x.len) = c1 + x.len := IntWalk.i64_in _ (by omega)
          have w2 : IntKind.i64.wrap (c1 + x.len - r.to_) = c1 + x.len - r.to_ := IntWalk.i64_in _ (by omega)
          have w3 : IntKind.i64.wrap (c1 + x.len - r.from_) = c1 + x.len - r.from_ := IntWalk.i64_in _ (by omega)
          have w4 : IntKind.i64.wrap (c1 + r.to_) = c1 + r.to_ := IntWalk.i64_in _ (by omega)
          have w5 : IntKind.i64.wrap (c1 + r.from_) = c1 + r.from_ := IntWalk.i64_in _ (by omega)
          subst hff htt
          by_cases h1 : nx = []
          · have n1 : ((nx.length : Int) == 0) = true := by simp [h1]
            by_cases h2 : q = []
            · have n2 : decide ((0 : Int) < (q.length : Int)) = false := by simp [h2]
              have n5 : decide (0 < q.length) = false := by simp [h2]
              have HX : Hid (nx = [] → p = []) := fun _ => H.out.2.2.2.2.2.2.2.1 h2
              clear h1 h2
              rcases hkey with ⟨k1, k2, k3⟩ | ⟨k1, k2⟩
              all_goals go_wp2
              all_goals refine wp_region_after (by kernel_rfl) (by kernel_rfl) ?_
              all_goals repeat (first | go_big_quiet_step (fail))
              all_goals refine wpQuiet_nil ?_
              all_goals rintro _ ⟨y, rfl⟩
              all_goals have E2 : Hid (Ext wr y.val) := etr E1.out y.is
              all_goals go_wp2_with (go_at_call 53; refine (limit_any A' q cq _ _ r.speed _ hql (H.out.2.2.2.1.keep E2.out)).mono ?_; rintro e w' ⟨v, rfl, ho, hb⟩; rw [← HNX.out] at ho; obtain ⟨A2, cap2, rfl, hr2, hm2, hg2⟩ := OwnL.rdn Sgc_len ho; have HR2 := Lib.hid hr2; have HN2 : Hid (∀ a, A2 = some a → a.block ≠ nb) := fun a ha => Nat.ne_of_gt (Nat.lt_of_lt_of_le (Nat.lt_of_lt_of_le HNB.out (etr H.out.1 E2.out).size) (hg2 a ha)); have HB2 := Lib.hid hb; clear ho hr2 hm2 hg2 hb)
              all_goals go_roundg (way.length - (k + 1))
              all_goals first | (have := HG.out; omega) | exact ⟨k + 1, c1 + x.len, A2, nx, cap2, by go_num, rfl, rfl, by omega, rfl, etr H.out.1 (etr E2.out HB2.out), H.out.2.1.keep (etr E2.out HB2.out), H.out.2.2.1.keep (etr E2.out HB2.out), HR2.out, by omega, HB.out, HN.out, HX.out, HN2.out⟩
            · have n2 : decide ((0 : Int) < (q.length : Int)) = true := decide_eq_true (by have := List.length_pos_iff.2 h2; omega)
              have n5 : 0 < q.length := List.length_pos_iff.2 h2
              have n6 : (0 : Int) < (q.length : Int) := by omega
              have HD : Hid (LowDead L.els r way c0 p) := ⟨fun h => h2 (by rw [H.out.2.2.2.2.2.2.1, h]; exact lowF_nil _ _ _ _), lowTo_dead (k := k + 1) (by rw [← HN.out]; exact h1) (by omega)⟩
              clear h1 h2
              rcases hkey with ⟨k1, k2, k3⟩ | ⟨k1, k2⟩
              all_goals go_wp2
              all_goals refine wp_region_after (by kernel_rfl) (by kernel_rfl) ?_
              all_goals repeat (first | go_big_quiet_step (fail))
              all_goals refine wpQuiet_nil ?_
              all_goals rintro _ ⟨y, rfl⟩
              all_goals have E2 : Hid (Ext wr y.val) := etr E1.out y.is
              all_goals go_wp2_with (go_at_call 53; refine (limit_any A' q cq _ _ r.speed _ hql (H.out.2.2.2.1.keep E2.out)).mono ?_; rintro e w' ⟨v, rfl, ho, hb⟩; rw [← HNX.out] at ho; obtain ⟨A2, cap2, rfl, hr2, hm2, hg2⟩ := OwnL.rdn Sgc_len ho; have HR2 := Lib.hid hr2; have HN2 : Hid (∀ a, A2 = some a → a.block ≠ nb) := fun a ha => Nat.ne_of_gt (Nat.lt_of_lt_of_le (Nat.lt_of_lt_of_le HNB.out (etr H.out.1 E2.out).size) (hg2 a ha)); have HB2 := Lib.hid hb; clear ho hr2 hm2 hg2 hb)
              all_goals (try simp only [Exit.inBlock, Exit.then])
              all_goals exact ⟨rfl, etr H.out.1 (etr E2.out HB2.out), .inr ⟨HD.out, rfl⟩⟩
          · have n1 : ((nx.length : Int) == 0) = false := by simpa using h1
            have HX : Hid (nx = [] → p = []) := fun h => absurd h h1
            clear h1
            rcases hkey with ⟨k1, k2, k3⟩ | ⟨k1, k2⟩
            all_goals go_wp2
            all_goals refine wp_region_after (by kernel_rfl) (by kernel_rfl) ?_
            all_goals repeat (first | go_big_quiet_step (fail))
            all_goals refine wpQuiet_nil ?_
            all_goals rintro _ ⟨y, rfl⟩
            all_goals have E2 : Hid (Ext wr y.val) := etr E1.out y.is
            all_goals go_wp2_with (go_at_call 53; refine (limit_any A' q cq _ _ r.speed _ hql (H.out.2.2.2.1.keep E2.out)).mono ?_; rintro e w' ⟨v, rfl, ho, hb⟩; rw [← HNX.out] at ho; obtain ⟨A2, cap2, rfl, hr2, hm2, hg2⟩ := OwnL.rdn Sgc_len ho; have HR2 := Lib.hid hr2; have HN2 : Hid (∀ a, A2 = some a → a.block ≠ nb) := fun a ha => Nat.ne_of_gt (Nat.lt_of_lt_of_le (Nat.lt_of_lt_of_le HNB.out (etr H.out.1 E2.out).size) (hg2 a ha)); have HB2 := Lib.hid hb; clear ho hr2 hm2 hg2 hb)
            all_goals go_roundg (way.length - (k + 1))
            all_goals first | (have := HG.out; omega) | exact ⟨k + 1, c1 + x.len, A2, nx, cap2, by go_num, rfl, rfl, by omega, rfl, etr H.out.1 (etr E2.out HB2.out), H.out.2.1.keep (etr E2.out HB2.out), H.out.2.2.1.keep (etr E2.out HB2.out), HR2.out, by omega, HB.out, HN.out, HX.out, HN2.out⟩
      · have hq : ((kE : Int) == r.el) = false := by simpa using hc
        have w1 : IntKind.i64.wrap (c1 + x.len) = c1 + x.len := IntWalk.i64_in _ (by omega)
        have HN : Hid (q = lowTo L.els r way c0 (k + 1) p) := by
          show _ = _
          rw [lowTo_succ HS.out, if_neg hc, ← H.out.2.2.2.2.2.2.1]
        have HB : Hid (c1 + x.len = begF L.els way c0 (k + 1)) := by
          show _ = _
          rw [begF_succ HS.out, ← H.out.2.2.2.2.2.1, HXE.out]
        clear hc
        go_wp2
        go_roundg (way.length - (k + 1))
        case measure => have := HG.out; omega
        case rel => exact ⟨k + 1, c1 + x.len, A', q, cq, by go_num, rfl, rfl, by omega, rfl, etr H.out.1 E1.out, H.out.2.1.keep E1.out, H.out.2.2.1.keep E1.out, H.out.2.2.2.1.keep E1.out, H.out.2.2.2.2.1, HB.out, HN.out, H.out.2.2.2.2.2.2.2⟩
    · have e : k = way.length := by omega
      subst e
      have HF : Hid (q = lowF L.els r way c0 p) := by
        have := H.out.2.2.2.2.2.2.1
        unfold lowTo at this
        rw [List.take_length] at this
        exact this
      go_wp2
      go_ret
      refine ⟨H.out.1, .inl ⟨fun hd => hd.1 (H.out.2.2.2.2.2.2.2.1 (by rw [HF.out]; exact hd.2)), A', cq, ?_, ?_, ?_, H.out.2.2.2.2.2.2.2.2⟩⟩
      · rw [← HF.out]; rfl
      · rw [← HF.out]; exact H.out.2.2.2.1
      · rw [← HF.out]; exact H.out.2.2.2.2.1
end Go.Proofs.YtacnfchoemndeaaDoor

