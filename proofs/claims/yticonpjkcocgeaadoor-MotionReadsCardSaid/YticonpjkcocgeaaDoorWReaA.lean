/- Walks: where a step passes a balise; the first place of a step in a list. -/
import Derived.Test.YticonpjkcocgeaaDoorPAll
import Derived.Test.YticonpjkcocgeaaDoorWMotE
set_option linter.unusedVariables false
set_option linter.unusedSimpArgs false
set_option maxRecDepth 100000
namespace Go.Proofs.YticonpjkcocgeaaDoor
open Go.ChangeShapes Go.WideShapes Go.ChangeAt Go.RowKit
open Sg

theorem plc_ret {els : List Elm} {s : Stp} {b : Bls} {v : Int} {q : Bool} (h : placeB s b = q) (g : placeV els s b = v) : Ending.returned (.tuple #[.int .i64 v, .bool q]) = .returned (.tuple #[.int .i64 (placeV els s b), .bool (placeB s b)]) := by rw [h, g]
section
set_option maxHeartbeats 16000000
theorem place_any (L : Lay) (s : Stp) (x : Bls) (w : World) (hL : LayOk w L) (hE : ElsOk L.els) (hs : hasEl L.els s.el) (hx : 0 ≤ x.off ∧ x.off ≤ 1000000) : Calls Tryd.prog 34 #[.agg #[.string L.name, .slice L.aS L.secs.length L.cS, .slice L.aE L.els.length L.cE, .slice L.aJ L.jts.length L.cJ, .slice L.aG L.sgs.length L.cG, .slice L.aB L.bals.length L.cB], .agg #[.int .i64 s.el, .int .i64 s.in_, .int .i64 s.out_], .agg #[.int .i64 x.id, .int .i64 x.el, .int .i64 x.off]] w fun e w' => e = .returned (.tuple #[.int .i64 (placeV L.els s x), .bool (placeB s x)]) ∧ Below w.heap.size w w' := by
  by_cases k0 : s.el = x.el
  case neg =>
    have hB : placeB s x = false := by unfold placeB; simp [k0]
    have HR := Lib.hid (plc_ret hB (place_no (els := L.els) hB))
    have q0 : (s.el != x.el) = true := by simpa using k0
    clear hE hs hx hL k0 hB
    go_enter Tryd.func34, Tryd.ntmps34
    go_wp2
    (try simp only [Exit.inBlock, Exit.then])
    exact bodyPost_ret (by simp [results, Tryd.results34, go_sem]) rfl ⟨HR.out, eal (eal (eal (Ext.refl _) _) _) _⟩
  have HL := Lib.hid hL
  obtain ⟨kE, y, hk, hy, hye⟩ := has_at hs
  have hyb := hE kE y hy
  have hlt := (List.getElem?_eq_some_iff.1 hy).1
  obtain ⟨b, off, y', hA, hy', hbl, c0, c1, c2, c3, c4, c5, c6⟩ := rd_el HL.out.hE (Ext.refl w) hlt
  rw [hy] at hy'
  cases hy'
  have hlen : lenOf L.els s = y.len := by unfold lenOf; rw [hye]
  have q0 : (s.el != x.el) = false := by simpa using k0
  have HUP : Hid (s.in_ = 0 → s.out_ = 1 → Ending.returned (.tuple #[.int .i64 x.off, .bool true]) = .returned (.tuple #[.int .i64 (placeV L.els s x), .bool (placeB s x)])) := fun h1 h2 => plc_ret (place_up (els := L.els) k0 h1 h2).1 (place_up (els := L.els) k0 h1 h2).2
  have HDN : Hid (s.in_ = 1 → s.out_ = 0 → Ending.returned (.tuple #[.int .i64 (y.len - x.off), .bool true]) = .returned (.tuple #[.int .i64 (placeV L.els s x), .bool (placeB s x)])) := fun h1 h2 => plc_ret (place_down (els := L.els) k0 h1 h2).1 (by rw [(place_down (els := L.els) k0 h1 h2).2, hlen])
  have HNO : Hid (¬ (s.in_ = 0 ∧ s.out_ = 1) → ¬ (s.in_ = 1 ∧ s.out_ = 0) → Ending.returned (.tuple #[.int .i64 0, .bool false]) = .returned (.tuple #[.int .i64 (placeV L.els s x), .bool (placeB s x)])) := fun h1 h2 => by
    have hB : placeB s x = false := by
      unfold placeB
      cases h3 : (s.in_ == 0) <;> cases h4 : (s.out_ == 1) <;> cases h5 : (s.in_ == 1) <;> cases h6 : (s.out_ == 0) <;> simp_all
    exact plc_ret hB (place_no hB)
  have n1 : IntKind.i64.wrap (y.len - x.off) = y.len - x.off := IntWalk.i64_in _ (by omega)
  have hbl1 : b < w.heap.size + 1 := by omega
  have hbl2 : b < w.heap.size + 1 + 1 := by omega
  have hbl3 : b < w.heap.size + 1 + 1 + 1 := by omega
  have HLm := HL.out.lE
  unfold maxLen at HLm
  have i1 : (0 : Int) ≤ (kE : Int) := by omega
  have i2 : (kE : Int) < (L.els.length : Int) := by omega
  obtain ⟨el, in_, out_⟩ := s
  obtain rfl : el = (kE : Int) := hk
  simp only [] at HUP HDN HNO q0 ⊢
  have key : ((in_ == 0) = true ∧ (out_ == 1) = true ∧ in_ = 0 ∧ out_ = 1) ∨ ((in_ == 0) = false ∧ (in_ == 1) = true ∧ (out_ == 0) = true ∧ in_ = 1 ∧ out_ = 0) ∨ ((in_ == 0) = true ∧ (out_ == 1) = false ∧ (in_ == 1) = false ∧ in_ = 0 ∧ out_ ≠ 1) ∨ ((in_ == 0) = false ∧ (in_ == 1) = true ∧ (out_ == 0) = false ∧ in_ = 1 ∧ out_ ≠ 0) ∨ ((in_ == 0) = false ∧ (in_ == 1) = false ∧ in_ ≠ 0 ∧ in_ ≠ 1) := by
    by_cases h0 : in_ = 0
    · by_cases h1 : out_ = 1
      · exact .inl ⟨by simp [h0], by simp [h1], h0, h1⟩
      · exact .inr (.inr (.inl ⟨by simp [h0], by simpa using h1, by simp [h0], h0, h1⟩))
    · by_cases h1 : in_ = 1
      · by_cases h2 : out_ = 0
        · exact .inr (.inl ⟨by simpa using h0, by simp [h1], by simp [h2], h1, h2⟩)
        · exact .inr (.inr (.inr (.inl ⟨by simpa using h0, by simp [h1], by simpa using h2, h1, h2⟩)))
      · exact .inr (.inr (.inr (.inr ⟨by simpa using h0, by simpa using h1, h0, h1⟩)))
  rw [hA]
  clear hA hy hye hs hlen hyb hE hL k0
  rcases key with ⟨q1, q2, h1, h2⟩ | ⟨q1, q2, q3, h1, h2⟩ | ⟨q1, q2, q3, h1, h2⟩ | ⟨q1, q2, q3, h1, h2⟩ | ⟨q1, q2, h1, h2⟩
  · have HR := Lib.hid (HUP.out h1 h2)
    clear h1 h2
    go_enter Tryd.func34, Tryd.ntmps34
    go_wp2
    (try simp only [Exit.inBlock, Exit.then])
    exact bodyPost_ret (by simp [results, Tryd.results34, go_sem]) rfl ⟨HR.out, eal (eal (eal (eal (Ext.refl _) _) _) _) _⟩
  · have HR := Lib.hid (HDN.out h1 h2)
    clear h1 h2
    go_enter Tryd.func34, Tryd.ntmps34
    go_wp2
    (try simp only [Exit.inBlock, Exit.then])
    exact bodyPost_ret (by simp [results, Tryd.results34, go_sem]) rfl ⟨HR.out, eal (eal (eal (eal (Ext.refl _) _) _) _) _⟩
  · have HR := Lib.hid (HNO.out (fun g => h2 g.2) (fun g => by omega))
    clear h1 h2
    go_enter Tryd.func34, Tryd.ntmps34
    go_wp2
    (try simp only [Exit.inBlock, Exit.then])
    exact bodyPost_ret (by simp [results, Tryd.results34, go_sem]) rfl ⟨HR.out, eal (eal (eal (eal (Ext.refl _) _) _) _) _⟩
  · have HR := Lib.hid (HNO.out (fun g => by omega) (fun g => h2 g.2))
    clear h1 h2
    go_enter Tryd.func34, Tryd.ntmps34
    go_wp2
    (try simp only [Exit.inBlock, Exit.then])
    exact bodyPost_ret (by simp [results, Tryd.results34, go_sem]) rfl ⟨HR.out, eal (eal (eal (eal (Ext.refl _) _) _) _) _⟩
  · have HR := Lib.hid (HNO.out (fun g => h1 g.1) (fun g => h2 g.1))
    clear h1 h2
    go_enter Tryd.func34, Tryd.ntmps34
    go_wp2
    (try simp only [Exit.inBlock, Exit.then])
    exact bodyPost_ret (by simp [results, Tryd.results34, go_sem]) rfl ⟨HR.out, eal (eal (eal (eal (Ext.refl _) _) _) _) _⟩
theorem index_any (A : Option Addr) (way : List Stp) (c : Nat) (s : Stp) (w : World) (hr : Rd w A 3 Stc way) (hm : way.length ≤ maxLen) : Calls Tryd.prog 33 #[.slice A way.length c, .agg #[.int .i64 s.el, .int .i64 s.in_, .int .i64 s.out_]] w fun e w' => e = .returned (.int .i64 (idxS way s)) ∧ Below w.heap.size w w' := by
  unfold maxLen at hm
  have HR := Lib.hid hr
  clear hr
  go_enter Tryd.func33, Tryd.ntmps33
  go_wp2
  go_loopg [8] way.length (fun g ix wr => ∃ k : Nat, ix = .int .i64 k ∧ k ≤ way.length ∧ g = way.length - k ∧ Hid (Ext w wr ∧ CellsAt wr w.heap.size (Stc s) ∧ ∀ (j : Nat) t, j < k → way[j]? = some t → t ≠ s))
  case atStart => exact ⟨0, rfl, by omega, rfl, eal (Ext.refl _) _, CellsAt.new rfl, fun j t h => absurd h (by omega)⟩
  case round =>
    obtain ⟨k, rfl, hk, hg, H⟩ := hrel
    have HG := Lib.hid hg
    clear hg
    have b0 := H.out.2.1.1
    have b1 := H.out.2.1.2 0 _ rfl
    have b2 := H.out.2.1.2 1 _ rfl
    have b3 := H.out.2.1.2 2 _ rfl
    by_cases hlt : k < way.length
    · have q0 : decide ((k : Int) < (way.length : Int)) = true := decide_eq_true (by omega)
      obtain ⟨bw, ow, t, rfl, hs, hbs, s0, s1, s2⟩ := rd_st HR.out H.out.1 hlt
      have HS := Lib.hid hs
      clear hs
      have key : (s.el = t.el ∧ s.in_ = t.in_ ∧ s.out_ = t.out_) ∨ (((s.el == t.el) = false ∨ ((s.el == t.el) = true ∧ (s.in_ == t.in_) = false) ∨ ((s.el == t.el) = true ∧ (s.in_ == t.in_) = true ∧ (s.out_ == t.out_) = false)) ∧ t ≠ s) := by
        by_cases h0 : s.el = t.el
        · by_cases h1 : s.in_ = t.in_
          · by_cases h2 : s.out_ = t.out_
            · exact .inl ⟨h0, h1, h2⟩
            · exact .inr ⟨.inr (.inr ⟨by simpa using h0, by simpa using h1, by simpa using h2⟩), fun e => h2 (by rw [e])⟩
          · exact .inr ⟨.inr (.inl ⟨by simpa using h0, by simpa using h1⟩), fun e => h1 (by rw [e])⟩
        · exact .inr ⟨.inl (by simpa using h0), fun e => h0 (by rw [e])⟩
      rcases key with ⟨h0, h1, h2⟩ | ⟨q1, hne⟩
      · have HV : Hid (idxS way s = k) := idxS_at (s := s) (HS.out.trans (congrArg some (Stp.eq' h0.symm h1.symm h2.symm))) H.out.2.2
        have q1 : (s.el == t.el) = true := by simpa using h0
        have q2 : (s.in_ == t.in_) = true := by simpa using h1
        have q3 : (s.out_ == t.out_) = true := by simpa using h2
        clear h0 h1 h2
        go_upto_region 4 with (fail)
        refine wp_region_after (by kernel_rfl) (by kernel_rfl) ?_
        repeat (first | go_big_quiet_step (fail))
        refine wpQuiet_nil ?_
        rintro _ ⟨y, rfl⟩
        go_wp2
        go_ret
        exact ⟨ret_int HV.out.symm, etr H.out.1 y.is⟩
      · have HN : Hid (∀ (j : Nat) u, j < k + 1 → way[j]? = some u → u ≠ s) := fun j u hj hu => by
          by_cases e : j = k
          · subst e; rw [HS.out] at hu; cases hu; exact hne
          · exact H.out.2.2 j u (by omega) hu
        clear hne
        rcases q1 with q1 | ⟨q1, q2⟩ | ⟨q1, q2, q3⟩
        all_goals
          go_upto_region 4 with (fail)
          refine wp_region_after (by kernel_rfl) (by kernel_rfl) ?_
          repeat (first | go_big_quiet_step (fail))
          refine wpQuiet_nil ?_
          rintro _ ⟨y, rfl⟩
          go_wp2
          go_roundg (way.length - (k + 1))
          case measure => have := HG.out; omega
          case rel => exact ⟨k + 1, by go_num, by omega, rfl, etr H.out.1 y.is, H.out.2.1.keep y.is, HN.out⟩
    · have HV : Hid (idxS way s = -1) := idxS_no fun j t ht => H.out.2.2 j t (by have := (List.getElem?_eq_some_iff.1 ht).1; omega) ht
      have q0 : decide ((k : Int) < (way.length : Int)) = false := decide_eq_false (by omega)
      go_wp2
      go_ret
      exact ⟨ret_int HV.out.symm, H.out.1⟩
end
end Go.Proofs.YticonpjkcocgeaaDoor
