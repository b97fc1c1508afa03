/- Walks of package profile and of its reference: the reference's Slowest and Steepest; Cut. -/
import Derived.Test.YtacnfchoemndeaaDoorWProfE
import Derived.RegionTactic
set_option linter.unusedVariables false
set_option linter.unusedSimpArgs false
namespace Go.Proofs.YtacnfchoemndeaaDoor
open Go.ChangeShapes Go.WideShapes Go.ChangeAt Go.RowKit
open Sg

set_option maxHeartbeats 4000000 in
theorem rslow_any (A : Option Addr) (p : List Sgm) (cap : Nat) (f t : Int) (w : World) (hm : p.length ≤ 1000000) (hr : Rd w A 4 Sgc p) :
    Calls Tryd.prog 25 #[.slice A p.length cap, .int .i64 f, .int .i64 t] w fun e w' => e = .returned (.int .i64 (slowV p f t)) ∧ Below w.heap.size w w' := by
  have HR := Lib.hid hr
  clear hr
  have HE : Hid (slowV p f t = leastL ((touL p f t).map Sgm.speed)) := rfl
  have hln := touL_len p f t
  go_enter Tryd.func25, Tryd.ntmps25
  go_wp2_with fail
  refine (touched_any A p cap f t _ hm HR.out).mono ?_
  rintro e w' ⟨v, rfl, ho, hb⟩
  obtain ⟨q, hq⟩ : ∃ q, q = touL p f t := ⟨_, rfl⟩
  rw [← hq] at ho hln HE
  obtain ⟨A1, cap1, rfl, hr1, _⟩ := ho.rd Sgc_len
  have HB := Lib.hid hb
  have HR1 := Lib.hid hr1
  clear ho hb hr1 hq
  go_wp2
  go_loopg [7, 15] q.length (fun g res i wr => ∃ (k : Nat) (r : Int), i = .int .i64 k ∧ k ≤ q.length ∧ g = q.length - k ∧ res = .int .i64 r ∧ Hid (Below w'.heap.size w' wr ∧ r = leastL ((q.take k).map Sgm.speed)))
  case atStart => exact ⟨0, 0, rfl, by omega, rfl, rfl, Below.refl _ _, rfl⟩
  case round =>
    obtain ⟨k, r, rfl, hk, hg, rfl, H⟩ := hrel
    have HG := Lib.hid hg
    clear hg
    by_cases hlt : k < q.length
    · obtain ⟨b, off, s, rfl, hs, hbs, c0, c1, c2, c3⟩ := rd_seg HR1.out H.out.1 hlt
      have HT : Hid ((q.take (k + 1)).map Sgm.speed = (q.take k).map Sgm.speed ++ [s.speed]) := by
        show _ = _
        obtain ⟨hl, rfl⟩ := List.getElem?_eq_some_iff.1 hs
        rw [List.take_succ_eq_append_getElem hl, List.map_append]; rfl
      clear hs
      by_cases hk0 : k = 0
      · have hk0' : ((k : Int) == 0) = true := by simp [hk0]
        have HL : Hid (leastL ((q.take (k + 1)).map Sgm.speed) = s.speed) := by show _ = _; rw [HT.out, hk0]; rfl
        clear hk0
        go_wp2
        go_roundg (q.length - (k + 1))
        case measure => have := HG.out; omega
        case rel => exact ⟨k + 1, _, by go_num, by omega, rfl, rfl, H.out.1.alloc H.out.1.size _, HL.out.symm⟩
      · have hk0' : ((k : Int) == 0) = false := by simp; omega
        have HL : Hid (leastL ((q.take (k + 1)).map Sgm.speed) = min r s.speed) := by
          show _ = _
          rw [HT.out, leastL_snoc, if_neg (by
            intro h
            have := congrArg List.length h
            rw [List.length_map, List.length_take, List.length_nil] at this; omega), H.out.2]
        clear hk0
        by_cases hlt2 : s.speed < r
        · go_wp2
          go_roundg (q.length - (k + 1))
          case measure => have := HG.out; omega
          case rel => exact ⟨k + 1, _, by go_num, by omega, rfl, rfl, H.out.1.alloc H.out.1.size _, by rw [HL.out]; omega⟩
        · have hlt3 : decide (s.speed < r) = false := by simpa using hlt2
          go_wp2
          go_roundg (q.length - (k + 1))
          case measure => have := HG.out; omega
          case rel => exact ⟨k + 1, _, by go_num, by omega, rfl, rfl, H.out.1.alloc H.out.1.size _, by rw [HL.out]; omega⟩
    · have HL : Hid (r = leastL (q.map Sgm.speed)) := by
        have := H.out.2
        rwa [List.take_of_length_le (by omega)] at this
      go_wp2
      go_ret
      exact ⟨ret_int (by rw [HE.out, HL.out]), HB.out.trans (H.out.1.mono HB.out.size)⟩
set_option maxHeartbeats 4000000 in
theorem part_any (f t : Int) (s : Sgm) (w : World) : Calls Tryd.prog 70 #[.agg #[.int .i64 f, .int .i64 t], .agg #[.int .i64 s.from_, .int .i64 s.to_, .int .i64 s.grade, .int .i64 s.speed]] w fun e w' => e = .returned (.tuple #[.agg #[.int .i64 (partS f t s).from_, .int .i64 (partS f t s).to_, .int .i64 (partS f t s).grade, .int .i64 (partS f t s).speed], .bool (partB f t s)]) ∧ Below w.heap.size w w' := by
  have k1 : (f ≤ s.from_ ∧ max s.from_ f = s.from_) ∨ (s.from_ < f ∧ max s.from_ f = f) := by omega
  have k2 : (s.to_ ≤ t ∧ min s.to_ t = s.to_) ∨ (t < s.to_ ∧ min s.to_ t = t) := by omega
  have HP : Hid (partS f t s = ⟨max s.from_ f, min s.to_ t, s.grade, s.speed⟩) := rfl
  have HB : Hid (partB f t s = decide (max s.from_ f < min s.to_ t)) := rfl
  rcases k1 with ⟨k1, e1⟩ | ⟨k1, e1⟩
  all_goals rcases k2 with ⟨k2, e2⟩ | ⟨k2, e2⟩
  all_goals rw [e1, e2] at HP HB
  all_goals clear e1 e2
  all_goals go_enter Tryd.func70, Tryd.ntmps70
  all_goals go_wp2
  all_goals go_region
  all_goals go_wp2
  all_goals go_region
  all_goals go_wp2
  all_goals exact bodyPost_ret (v := .tuple #[.agg #[.int .i64 (partS f t s).from_, .int .i64 (partS f t s).to_, .int .i64 (partS f t s).grade, .int .i64 (partS f t s).speed], .bool (partB f t s)]) (by rw [HP.out, HB.out]; simp [results, Tryd.results70, go_sem]) rfl ⟨rfl, ((((Below.refl _ _).alloc (Nat.le_refl _) _).alloc (by simp) _).alloc (by simp; omega) _).drew.drew⟩
end Go.Proofs.YtacnfchoemndeaaDoor
