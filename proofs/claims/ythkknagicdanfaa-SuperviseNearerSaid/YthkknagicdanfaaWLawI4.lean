/- Walks of chapter 34's laws: Nearer. -/
import Derived.Test.YthkknagicdanfaaWLawI2
set_option linter.unusedVariables false
set_option linter.unusedSimpArgs false
namespace Go.Proofs.Ythkknagicdanfaa
open Go.ChangeShapes Go.WideShapes Go.ChangeAt Go.RowKit
open Sg

open Classical in
noncomputable def levelB (p : List Sgm) : Bool := decide (LevelP p)
theorem levelB_true {p : List Sgm} : levelB p = true ↔ LevelP p := by simp [levelB]
theorem levelB_false {p : List Sgm} : levelB p = false ↔ ¬ LevelP p := by simp [levelB]
set_option maxHeartbeats 4000000 in
theorem level_any (A : Option Addr) (p : List Sgm) (cap : Nat) (w : World) (hm : p.length ≤ 1000000) (hr : Rd w A 4 Sgc p) :
    Calls Try.prog 16 #[.slice A p.length cap] w fun e w' => e = .returned (.bool (levelB p)) ∧ Below w.heap.size w w' := by
  have HR := Lib.hid hr
  clear hr
  go_enter Try.func16, Try.ntmps16
  go_wp2
  go_loopg [7] p.length (fun g i wr => ∃ j : Nat, i = .int .i64 j ∧ j ≤ p.length ∧ g = p.length - j ∧ Hid (Ext w wr ∧ ∀ (i : Nat) s, i < j → p[i]? = some s → s.grade = (p.getD 0 Sgm.z).grade))
  case atStart => exact ⟨0, rfl, by omega, rfl, Ext.refl _, fun i s h => absurd h (by omega)⟩
  case round =>
    obtain ⟨j, rfl, hj, hg, H⟩ := hrel
    have HG := Lib.hid hg
    clear hg
    by_cases hlt : j < p.length
    · obtain ⟨b, off, s0, rfl, hs0, hbs, c0, c1, c2, c3⟩ := rd_seg HR.out H.out.1 (show 0 < p.length by omega)
      obtain ⟨b2, off2, s, hA2, hs, _, d0, d1, d2, d3⟩ := rd_seg HR.out H.out.1 hlt
      simp only [Option.some.injEq, Addr.mk.injEq] at hA2
      obtain ⟨rfl, rfl, -⟩ := hA2
      have e0 : (p.getD 0 Sgm.z).grade = s0.grade := by simp [List.getD_eq_getElem?_getD, hs0]
      have c2' : wr.cell? ⟨b, off + 1 + 1, none⟩ = some (.int .i64 s0.grade) := by simpa using c2
      have c2'' : wr.cell? ⟨b, off + 2, none⟩ = some (.int .i64 s0.grade) := by simpa using c2
      have hp0 : 0 < p.length := by omega
      have hp0d : decide (0 < p.length) = true := decide_eq_true hp0
      by_cases he : s.grade = s0.grade
      · have HN : Hid (∀ (i : Nat) s, i < j + 1 → p[i]? = some s → s.grade = (p.getD 0 Sgm.z).grade) := fun i u hi hu => by
          by_cases e : i = j
          · subst e; rw [hs] at hu; cases hu; rw [e0, he]
          · exact H.out.2 i u (by omega) hu
        have q1 : (s.grade != s0.grade) = false := by simp [he]
        clear hs hs0 e0 he c0 c1 c2 c3
        go_wp2_with fail
        refine wp_region_after (by kernel_rfl) (by kernel_rfl) ?_
        repeat (first | go_big_quiet_step (fail))
        refine wpQuiet_nil ?_
        rintro _ ⟨y, rfl⟩
        go_wp2
        go_roundg (p.length - (j + 1))
        case measure => have := HG.out; omega
        case rel => exact ⟨j + 1, by go_num, by omega, rfl, etr (eal H.out.1 _) y.is, HN.out⟩
      · have HV := Lib.hid (levelB_false.2 (fun hL => he (by rw [← e0]; exact hL s (List.mem_of_getElem? hs))))
        have q1 : (s.grade != s0.grade) = true := by simp [he]
        clear hs hs0 e0 he c0 c1 c2 c3
        go_wp2_with fail
        refine wp_region_after (by kernel_rfl) (by kernel_rfl) ?_
        repeat (first | go_big_quiet_step (fail))
        refine wpQuiet_nil ?_
        rintro _ ⟨y, rfl⟩
        go_wp2
        go_ret
        exact ⟨ret_bool HV.out.symm, etr (eal H.out.1 _) y.is⟩
    · have HV : Hid (levelB p = true) := levelB_true.2 fun s hs => by
        obtain ⟨i, hi, rfl⟩ := List.getElem_of_mem hs
        exact H.out.2 i _ (by omega) (List.getElem?_eq_getElem hi)
      go_wp2
      go_ret
      exact ⟨ret_bool HV.out.symm, H.out.1⟩

def olds3 : List Int := [0, 1, 2]
set_option maxHeartbeats 16000000 in
set_option maxRecDepth 100000 in
theorem nearer_walk (T : Tr) (E : Es) (sq en : Int) (A LA : Option Addr) (p : List Sgm) (cap ln lc : Nat) (less : Int) (w : World) (hs : T.name.size ≤ maxLen) (hpl : p.length ≤ maxLen) (hr : Rd w A 4 Sgc p) :
    Calls Try.prog 6 #[.agg #[.int .i64 T.id, .string T.name, .int .i64 T.len, .int .i64 T.speed, .int .i64 T.accel, .int .i64 T.service, .int .i64 T.emergency, .int .i64 T.delay, .int .i64 T.cons, .int .i64 T.rate], .agg #[.int .i64 sq, .int .i64 en, .slice A p.length cap, .slice LA ln lc], .agg #[.int .i64 E.min, .int .i64 E.max, .int .i64 E.speed, .int .i64 less]] w fun e w' => e = .returned (.bool true) ∧ Below w.heap.size w w' := by
  have HR := Lib.hid hr
  clear hr
  obtain ⟨w1, hw⟩ : ∃ w1, w1 = (((w.alloc (.cells #[.int .i64 T.id, .string T.name, .int .i64 T.len, .int .i64 T.speed, .int .i64 T.accel, .int .i64 T.service, .int .i64 T.emergency, .int .i64 T.delay, .int .i64 T.cons, .int .i64 T.rate] 23)).alloc (.cells #[.int .i64 sq, .int .i64 en, .slice A p.length cap, .slice LA ln lc] 27)).alloc (.cells #[.int .i64 E.min, .int .i64 E.max, .int .i64 E.speed, .int .i64 less] 35)).alloc (.cells #[.int .i64 E.min, .int .i64 E.max, .int .i64 E.speed] 29) := ⟨_, rfl⟩
  have HE0 : Hid (Ext w w1) := by rw [hw]; exact eal (eal (eal (eal (Ext.refl w) _) _) _) _
  have HCT : Hid (CellsAt w1 w.heap.size [.int .i64 T.id, .string T.name, .int .i64 T.len, .int .i64 T.speed, .int .i64 T.accel, .int .i64 T.service, .int .i64 T.emergency, .int .i64 T.delay, .int .i64 T.cons, .int .i64 T.rate]) := by rw [hw]; exact (((CellsAt.new (w := w) (cs := #[.int .i64 T.id, .string T.name, .int .i64 T.len, .int .i64 T.speed, .int .i64 T.accel, .int .i64 T.service, .int .i64 T.emergency, .int .i64 T.delay, .int .i64 T.cons, .int .i64 T.rate]) (t := 23) rfl).alloc _).alloc _).alloc _
  have HCA : Hid (CellsAt w1 (w.heap.size + 1) [.int .i64 sq, .int .i64 en, .slice A p.length cap, .slice LA ln lc]) := by rw [hw]; exact ((CellsAt.new (w := w.alloc (.cells #[.int .i64 T.id, .string T.name, .int .i64 T.len, .int .i64 T.speed, .int .i64 T.accel, .int .i64 T.service, .int .i64 T.emergency, .int .i64 T.delay, .int .i64 T.cons, .int .i64 T.rate] 23)) (cs := #[.int .i64 sq, .int .i64 en, .slice A p.length cap, .slice LA ln lc]) (t := 27) (b := w.heap.size + 1) (by simp)).alloc _).alloc _
  have HCS : Hid (CellsAt w1 (w.heap.size + 1 + 1) [.int .i64 E.min, .int .i64 E.max, .int .i64 E.speed, .int .i64 less]) := by rw [hw]; exact (CellsAt.new (b := w.heap.size + 1 + 1) (by simp)).alloc _
  have HCE : Hid (CellsAt w1 (w.heap.size + 1 + 1 + 1) [.int .i64 E.min, .int .i64 E.max, .int .i64 E.speed]) := by rw [hw]; exact CellsAt.new (by simp)
  have HFC : Hid (∀ x, Ext w1 x → Calls Try.prog 8 #[.agg #[.int .i64 T.id, .string T.name, .int .i64 T.len, .int .i64 T.speed, .int .i64 T.accel, .int .i64 T.service, .int .i64 T.emergency, .int .i64 T.delay, .int .i64 T.cons, .int .i64 T.rate], .agg #[.int .i64 sq, .int .i64 en, .slice A p.length cap, .slice LA ln lc], .agg #[.int .i64 E.min, .int .i64 E.max, .int .i64 E.speed]] x fun e w' => e = .returned (.bool (fitsB T p E en)) ∧ Below x.heap.size x w') := fun x hx => fit_any T E sq en A LA p cap ln lc x hs
  cases hf : fitsB T p E en
  · rw [hf] at HFC
    clear hf
    have HLC := True.intro
    go_enter Try.func6, Try.ntmps6
    go_upto_region 2 with (fail)
    rw [← hw]
    clear hw
    have t0 := HCT.out.2 0 _ rfl
    have t1 := HCT.out.2 1 _ rfl
    have t2 := HCT.out.2 2 _ rfl
    have t3 := HCT.out.2 3 _ rfl
    have t4 := HCT.out.2 4 _ rfl
    have t5 := HCT.out.2 5 _ rfl
    have t6 := HCT.out.2 6 _ rfl
    have t7 := HCT.out.2 7 _ rfl
    have t8 := HCT.out.2 8 _ rfl
    have t9 := HCT.out.2 9 _ rfl
    have zt := HCT.out.1
    have a0 := HCA.out.2 0 _ rfl
    have a1 := HCA.out.2 1 _ rfl
    have a2 := HCA.out.2 2 _ rfl
    have a3 := HCA.out.2 3 _ rfl
    have za := HCA.out.1
    have s0 := HCS.out.2 0 _ rfl
    have s1 := HCS.out.2 1 _ rfl
    have s2 := HCS.out.2 2 _ rfl
    have s3 := HCS.out.2 3 _ rfl
    have zs := HCS.out.1
    have e0 := HCE.out.2 0 _ rfl
    have e1 := HCE.out.2 1 _ rfl
    have e2 := HCE.out.2 2 _ rfl
    have ze := HCE.out.1
    go_wp2_with (first
      | (go_at_call 8; refine (to_after (HFC.out _ (Ext.refl _))).mono ?_; rintro e w' ⟨y, rfl, rfl⟩)
      | (go_at_call 13; refine (in_after y (alive_any _)).mono ?_; rintro e w' ⟨z, rfl, rfl⟩))
    go_ret
    exact ⟨rfl, etr HE0.out z.is⟩
  have HF := Lib.hid (fits_of hf)
  rw [hf] at HFC
  clear hf
  by_cases hmm : E.max < E.min
  · have hmd : decide (E.max < E.min) = true := decide_eq_true hmm
    go_enter Try.func6, Try.ntmps6
    go_upto_region 2 with (fail)
    rw [← hw]
    clear hw
    have t0 := HCT.out.2 0 _ rfl
    have t1 := HCT.out.2 1 _ rfl
    have t2 := HCT.out.2 2 _ rfl
    have t3 := HCT.out.2 3 _ rfl
    have t4 := HCT.out.2 4 _ rfl
    have t5 := HCT.out.2 5 _ rfl
    have t6 := HCT.out.2 6 _ rfl
    have t7 := HCT.out.2 7 _ rfl
    have t8 := HCT.out.2 8 _ rfl
    have t9 := HCT.out.2 9 _ rfl
    have zt := HCT.out.1
    have a0 := HCA.out.2 0 _ rfl
    have a1 := HCA.out.2 1 _ rfl
    have a2 := HCA.out.2 2 _ rfl
    have a3 := HCA.out.2 3 _ rfl
    have za := HCA.out.1
    have s0 := HCS.out.2 0 _ rfl
    have s1 := HCS.out.2 1 _ rfl
    have s2 := HCS.out.2 2 _ rfl
    have s3 := HCS.out.2 3 _ rfl
    have zs := HCS.out.1
    have e0 := HCE.out.2 0 _ rfl
    have e1 := HCE.out.2 1 _ rfl
    have e2 := HCE.out.2 2 _ rfl
    have ze := HCE.out.1
    go_wp2_with (first
      | (go_at_call 8; refine (to_after (HFC.out _ (Ext.refl _))).mono ?_; rintro e w' ⟨y, rfl, rfl⟩)
      | (go_at_call 13; refine (in_after y (alive_any _)).mono ?_; rintro e w' ⟨z, rfl, rfl⟩))
    go_ret
    exact ⟨rfl, etr HE0.out z.is⟩
  have hmd : decide (E.max < E.min) = false := decide_eq_false hmm
  have HLC : Hid (∀ x, Ext w1 x → Calls Try.prog 16 #[.slice A p.length cap] x fun e w' => e = .returned (.bool (levelB p)) ∧ Below x.heap.size x w') := fun x hx => level_any A p cap x (fits_len HF.out) (HR.out.keep (etr HE0.out hx))
  have key : (levelB p = false) ∨ (levelB p = true ∧ (decide (less < 0) = true ∨ (decide (less < 0) = false ∧ decide (1048576 < less) = true) ∨ (decide (less < 0) = false ∧ decide (1048576 < less) = false))) := by
    cases levelB p
    · exact .inl rfl
    · cases decide (less < 0) <;> cases decide (1048576 < less) <;> simp
  rcases key with hlv | ⟨hlv, q1 | ⟨q1, q2⟩ | ⟨q1, q2⟩⟩
  · rw [hlv] at HLC
    clear hlv
    go_enter Try.func6, Try.ntmps6
    go_upto_region 2 with (fail)
    rw [← hw]
    clear hw
    have t0 := HCT.out.2 0 _ rfl
    have t1 := HCT.out.2 1 _ rfl
    have t2 := HCT.out.2 2 _ rfl
    have t3 := HCT.out.2 3 _ rfl
    have t4 := HCT.out.2 4 _ rfl
    have t5 := HCT.out.2 5 _ rfl
    have t6 := HCT.out.2 6 _ rfl
    have t7 := HCT.out.2 7 _ rfl
    have t8 := HCT.out.2 8 _ rfl
    have t9 := HCT.out.2 9 _ rfl
    have zt := HCT.out.1
    have a0 := HCA.out.2 0 _ rfl
    have a1 := HCA.out.2 1 _ rfl
    have a2 := HCA.out.2 2 _ rfl
    have a3 := HCA.out.2 3 _ rfl
    have za := HCA.out.1
    have s0 := HCS.out.2 0 _ rfl
    have s1 := HCS.out.2 1 _ rfl
    have s2 := HCS.out.2 2 _ rfl
    have s3 := HCS.out.2 3 _ rfl
    have zs := HCS.out.1
    have e0 := HCE.out.2 0 _ rfl
    have e1 := HCE.out.2 1 _ rfl
    have e2 := HCE.out.2 2 _ rfl
    have ze := HCE.out.1
    go_wp2_with (first
      | (go_at_call 8; refine (to_after (HFC.out _ (Ext.refl _))).mono ?_; rintro e w' ⟨y, rfl, rfl⟩)
      | (go_at_call 16; refine (in_after y (HLC.out _ y.is)).mono ?_; rintro e w' ⟨y2, rfl, rfl⟩)
      | (go_at_call 13; refine (in_after y2 (alive_any _)).mono ?_; rintro e w' ⟨z, rfl, rfl⟩))
    go_ret
    exact ⟨rfl, etr HE0.out z.is⟩
  · rw [hlv] at HLC
    clear hlv
    go_enter Try.func6, Try.ntmps6
    go_upto_region 2 with (fail)
    rw [← hw]
    clear hw
    have t0 := HCT.out.2 0 _ rfl
    have t1 := HCT.out.2 1 _ rfl
    have t2 := HCT.out.2 2 _ rfl
    have t3 := HCT.out.2 3 _ rfl
    have t4 := HCT.out.2 4 _ rfl
    have t5 := HCT.out.2 5 _ rfl
    have t6 := HCT.out.2 6 _ rfl
    have t7 := HCT.out.2 7 _ rfl
    have t8 := HCT.out.2 8 _ rfl
    have t9 := HCT.out.2 9 _ rfl
    have zt := HCT.out.1
    have a0 := HCA.out.2 0 _ rfl
    have a1 := HCA.out.2 1 _ rfl
    have a2 := HCA.out.2 2 _ rfl
    have a3 := HCA.out.2 3 _ rfl
    have za := HCA.out.1
    have s0 := HCS.out.2 0 _ rfl
    have s1 := HCS.out.2 1 _ rfl
    have s2 := HCS.out.2 2 _ rfl
    have s3 := HCS.out.2 3 _ rfl
    have zs := HCS.out.1
    have e0 := HCE.out.2 0 _ rfl
    have e1 := HCE.out.2 1 _ rfl
    have e2 := HCE.out.2 2 _ rfl
    have ze := HCE.out.1
    go_wp2_with (first
      | (go_at_call 8; refine (to_after (HFC.out _ (Ext.refl _))).mono ?_; rintro e w' ⟨y, rfl, rfl⟩)
      | (go_at_call 16; refine (in_after y (HLC.out _ y.is)).mono ?_; rintro e w' ⟨y2, rfl, rfl⟩)
      | (go_at_call 13; refine (in_after y2 (alive_any _)).mono ?_; rintro e w' ⟨z, rfl, rfl⟩))
    go_ret
    exact ⟨rfl, etr HE0.out z.is⟩
  · rw [hlv] at HLC
    clear hlv
    go_enter Try.func6, Try.ntmps6
    go_upto_region 2 with (fail)
    rw [← hw]
    clear hw
    have t0 := HCT.out.2 0 _ rfl
    have t1 := HCT.out.2 1 _ rfl
    have t2 := HCT.out.2 2 _ rfl
    have t3 := HCT.out.2 3 _ rfl
    have t4 := HCT.out.2 4 _ rfl
    have t5 := HCT.out.2 5 _ rfl
    have t6 := HCT.out.2 6 _ rfl
    have t7 := HCT.out.2 7 _ rfl
    have t8 := HCT.out.2 8 _ rfl
    have t9 := HCT.out.2 9 _ rfl
    have zt := HCT.out.1
    have a0 := HCA.out.2 0 _ rfl
    have a1 := HCA.out.2 1 _ rfl
    have a2 := HCA.out.2 2 _ rfl
    have a3 := HCA.out.2 3 _ rfl
    have za := HCA.out.1
    have s0 := HCS.out.2 0 _ rfl
    have s1 := HCS.out.2 1 _ rfl
    have s2 := HCS.out.2 2 _ rfl
    have s3 := HCS.out.2 3 _ rfl
    have zs := HCS.out.1
    have e0 := HCE.out.2 0 _ rfl
    have e1 := HCE.out.2 1 _ rfl
    have e2 := HCE.out.2 2 _ rfl
    have ze := HCE.out.1
    go_wp2_with (first
      | (go_at_call 8; refine (to_after (HFC.out _ (Ext.refl _))).mono ?_; rintro e w' ⟨y, rfl, rfl⟩)
      | (go_at_call 16; refine (in_after y (HLC.out _ y.is)).mono ?_; rintro e w' ⟨y2, rfl, rfl⟩)
      | (go_at_call 13; refine (in_after y2 (alive_any _)).mono ?_; rintro e w' ⟨z, rfl, rfl⟩))
    go_ret
    exact ⟨rfl, etr HE0.out z.is⟩
  have HLV := Lib.hid (levelB_true.1 hlv)
  rw [hlv] at HLC
  clear hlv
  have hless : 0 ≤ less ∧ less ≤ 1048576 := ⟨by simpa using q1, by simpa using q2⟩
  have hlw := IntWalk.i64_in (less - 1073741824) (by omega)
  have hew := IntWalk.i64_in (en - less) (by have := HF.out.en; omega)
  by_cases hen : en < less - 1073741824
  · have hend : decide (en < less - 1073741824) = true := decide_eq_true hen
    go_enter Try.func6, Try.ntmps6
    go_upto_region 2 with (fail)
    rw [← hw]
    clear hw
    have t0 := HCT.out.2 0 _ rfl
    have t1 := HCT.out.2 1 _ rfl
    have t2 := HCT.out.2 2 _ rfl
    have t3 := HCT.out.2 3 _ rfl
    have t4 := HCT.out.2 4 _ rfl
    have t5 := HCT.out.2 5 _ rfl
    have t6 := HCT.out.2 6 _ rfl
    have t7 := HCT.out.2 7 _ rfl
    have t8 := HCT.out.2 8 _ rfl
    have t9 := HCT.out.2 9 _ rfl
    have zt := HCT.out.1
    have a0 := HCA.out.2 0 _ rfl
    have a1 := HCA.out.2 1 _ rfl
    have a2 := HCA.out.2 2 _ rfl
    have a3 := HCA.out.2 3 _ rfl
    have za := HCA.out.1
    have s0 := HCS.out.2 0 _ rfl
    have s1 := HCS.out.2 1 _ rfl
    have s2 := HCS.out.2 2 _ rfl
    have s3 := HCS.out.2 3 _ rfl
    have zs := HCS.out.1
    have e0 := HCE.out.2 0 _ rfl
    have e1 := HCE.out.2 1 _ rfl
    have e2 := HCE.out.2 2 _ rfl
    have ze := HCE.out.1
    go_wp2_with (first
      | (go_at_call 8; refine (to_after (HFC.out _ (Ext.refl _))).mono ?_; rintro e w' ⟨y, rfl, rfl⟩)
      | (go_at_call 16; refine (in_after y (HLC.out _ y.is)).mono ?_; rintro e w' ⟨y2, rfl, rfl⟩)
      | (go_at_call 13; refine (in_after y2 (alive_any _)).mono ?_; rintro e w' ⟨z, rfl, rfl⟩))
    go_ret
    exact ⟨rfl, etr HE0.out z.is⟩
  have hend : decide (en < less - 1073741824) = false := decide_eq_false hen
  have hHE0 := HE0
  by_cases h0 : p.length = 0
  · have HSH : Hid (p.length = 0 ∨ lastT p < en) := .inl h0
    have hz1 : ((p.length : Int) == 0) = true := by simp [h0]
    have hz2 : (p.length == 0) = true := by simp [h0]
    clear h0
    go_enter Try.func6, Try.ntmps6
    go_upto_region 2 with (fail)
    rw [← hw]
    clear hw
    have t0 := HCT.out.2 0 _ rfl
    have t1 := HCT.out.2 1 _ rfl
    have t2 := HCT.out.2 2 _ rfl
    have t3 := HCT.out.2 3 _ rfl
    have t4 := HCT.out.2 4 _ rfl
    have t5 := HCT.out.2 5 _ rfl
    have t6 := HCT.out.2 6 _ rfl
    have t7 := HCT.out.2 7 _ rfl
    have t8 := HCT.out.2 8 _ rfl
    have t9 := HCT.out.2 9 _ rfl
    have zt := HCT.out.1
    have a0 := HCA.out.2 0 _ rfl
    have a1 := HCA.out.2 1 _ rfl
    have a2 := HCA.out.2 2 _ rfl
    have a3 := HCA.out.2 3 _ rfl
    have za := HCA.out.1
    have s0 := HCS.out.2 0 _ rfl
    have s1 := HCS.out.2 1 _ rfl
    have s2 := HCS.out.2 2 _ rfl
    have s3 := HCS.out.2 3 _ rfl
    have zs := HCS.out.1
    have e0 := HCE.out.2 0 _ rfl
    have e1 := HCE.out.2 1 _ rfl
    have e2 := HCE.out.2 2 _ rfl
    have ze := HCE.out.1
    go_wp2_with fail
    refine (HFC.out _ (Ext.refl _)).mono ?_
    rintro e w2 ⟨rfl, hb2⟩
    have HX2 := Lib.hid hb2
    clear hb2
    replace HE0 := Lib.hid (etr HE0.out HX2.out)
    replace HCT := Lib.hid (HCT.out.keep HX2.out)
    replace HCA := Lib.hid (HCA.out.keep HX2.out)
    replace HCS := Lib.hid (HCS.out.keep HX2.out)
    replace HCE := Lib.hid (HCE.out.keep HX2.out)
    clear t0 t1 t2 t3 t4 t5 t6 t7 t8 t9 a0 a1 a2 a3 s0 s1 s2 s3 e0 e1 e2 zt za zs ze
    have t0 := HCT.out.2 0 _ rfl
    have t1 := HCT.out.2 1 _ rfl
    have t2 := HCT.out.2 2 _ rfl
    have t3 := HCT.out.2 3 _ rfl
    have t4 := HCT.out.2 4 _ rfl
    have t5 := HCT.out.2 5 _ rfl
    have t6 := HCT.out.2 6 _ rfl
    have t7 := HCT.out.2 7 _ rfl
    have t8 := HCT.out.2 8 _ rfl
    have t9 := HCT.out.2 9 _ rfl
    have zt := HCT.out.1
    have a0 := HCA.out.2 0 _ rfl
    have a1 := HCA.out.2 1 _ rfl
    have a2 := HCA.out.2 2 _ rfl
    have a3 := HCA.out.2 3 _ rfl
    have za := HCA.out.1
    have s0 := HCS.out.2 0 _ rfl
    have s1 := HCS.out.2 1 _ rfl
    have s2 := HCS.out.2 2 _ rfl
    have s3 := HCS.out.2 3 _ rfl
    have zs := HCS.out.1
    have e0 := HCE.out.2 0 _ rfl
    have e1 := HCE.out.2 1 _ rfl
    have e2 := HCE.out.2 2 _ rfl
    have ze := HCE.out.1
    go_wp2_with fail
    refine (HLC.out _ HX2.out).mono ?_
    rintro e w3 ⟨rfl, hb3⟩
    have HX3 := Lib.hid hb3
    clear hb3
    replace HE0 := Lib.hid (etr HE0.out HX3.out)
    replace HCT := Lib.hid (HCT.out.keep HX3.out)
    replace HCA := Lib.hid (HCA.out.keep HX3.out)
    replace HCS := Lib.hid (HCS.out.keep HX3.out)
    replace HCE := Lib.hid (HCE.out.keep HX3.out)
    clear t0 t1 t2 t3 t4 t5 t6 t7 t8 t9 a0 a1 a2 a3 s0 s1 s2 s3 e0 e1 e2 zt za zs ze
    have t0 := HCT.out.2 0 _ rfl
    have t1 := HCT.out.2 1 _ rfl
    have t2 := HCT.out.2 2 _ rfl
    have t3 := HCT.out.2 3 _ rfl
    have t4 := HCT.out.2 4 _ rfl
    have t5 := HCT.out.2 5 _ rfl
    have t6 := HCT.out.2 6 _ rfl
    have t7 := HCT.out.2 7 _ rfl
    have t8 := HCT.out.2 8 _ rfl
    have t9 := HCT.out.2 9 _ rfl
    have zt := HCT.out.1
    have a0 := HCA.out.2 0 _ rfl
    have a1 := HCA.out.2 1 _ rfl
    have a2 := HCA.out.2 2 _ rfl
    have a3 := HCA.out.2 3 _ rfl
    have za := HCA.out.1
    have s0 := HCS.out.2 0 _ rfl
    have s1 := HCS.out.2 1 _ rfl
    have s2 := HCS.out.2 2 _ rfl
    have s3 := HCS.out.2 3 _ rfl
    have zs := HCS.out.1
    have e0 := HCE.out.2 0 _ rfl
    have e1 := HCE.out.2 1 _ rfl
    have e2 := HCE.out.2 2 _ rfl
    have ze := HCE.out.1
    go_upto_region 7 with (fail)
    obtain ⟨w4, hw4⟩ : ∃ w4, w4 = w3.alloc (.cells #[.int .i64 sq, .int .i64 (en - less), .slice A p.length cap, .slice LA ln lc] 27) := ⟨_, rfl⟩
    have hq : Ext w3 w4 := by rw [hw4]; exact eal (Ext.refl _) _
    have HCB : Hid (CellsAt w4 w3.heap.size [.int .i64 sq, .int .i64 (en - less), .slice A p.length cap, .slice LA ln lc]) := by rw [hw4]; exact CellsAt.new rfl
    rw [← hw4]
    clear hw4
    replace HE0 := Lib.hid (etr HE0.out hq)
    replace HCT := Lib.hid (HCT.out.keep hq)
    replace HCA := Lib.hid (HCA.out.keep hq)
    replace HCS := Lib.hid (HCS.out.keep hq)
    replace HCE := Lib.hid (HCE.out.keep hq)
    clear t0 t1 t2 t3 t4 t5 t6 t7 t8 t9 a0 a1 a2 a3 s0 s1 s2 s3 e0 e1 e2 zt za zs ze
    have t0 := HCT.out.2 0 _ rfl
    have t1 := HCT.out.2 1 _ rfl
    have t2 := HCT.out.2 2 _ rfl
    have t3 := HCT.out.2 3 _ rfl
    have t4 := HCT.out.2 4 _ rfl
    have t5 := HCT.out.2 5 _ rfl
    have t6 := HCT.out.2 6 _ rfl
    have t7 := HCT.out.2 7 _ rfl
    have t8 := HCT.out.2 8 _ rfl
    have t9 := HCT.out.2 9 _ rfl
    have zt := HCT.out.1
    have a0 := HCA.out.2 0 _ rfl
    have a1 := HCA.out.2 1 _ rfl
    have a2 := HCA.out.2 2 _ rfl
    have a3 := HCA.out.2 3 _ rfl
    have za := HCA.out.1
    have b0 := HCB.out.2 0 _ rfl
    have b1 := HCB.out.2 1 _ rfl
    have b2 := HCB.out.2 2 _ rfl
    have b3 := HCB.out.2 3 _ rfl
    have zb := HCB.out.1
    have s0 := HCS.out.2 0 _ rfl
    have s1 := HCS.out.2 1 _ rfl
    have s2 := HCS.out.2 2 _ rfl
    have s3 := HCS.out.2 3 _ rfl
    have zs := HCS.out.1
    have e0 := HCE.out.2 0 _ rfl
    have e1 := HCE.out.2 1 _ rfl
    have e2 := HCE.out.2 2 _ rfl
    have ze := HCE.out.1
    have HD : Hid (∀ xx, Ext w4 xx → Calls Try.prog 14 #[.agg #[.int .i64 T.id, .string T.name, .int .i64 T.len, .int .i64 T.speed, .int .i64 T.accel, .int .i64 T.service, .int .i64 T.emergency, .int .i64 T.delay, .int .i64 T.cons, .int .i64 T.rate], .agg #[.int .i64 sq, .int .i64 en, .slice A p.length cap, .slice LA ln lc], .agg #[.int .i64 E.min, .int .i64 E.max, .int .i64 E.speed], .int .i64 0] xx fun e w' => e = .returned (.int .i64 2) ∧ Below xx.heap.size xx w') := fun xx hx => by rw [← short_decides (T := T) (old := 0) HSH.out]; exact sdec_any T E sq en A LA p cap ln lc 0 xx (fits_len HF.out) HF.out.sup (HR.out.keep (etr HE0.out hx))
    go_wp2_with fail
    refine wp_region_after (by kernel_rfl) (by kernel_rfl) ?_
    repeat (first | go_big_quiet_step (fail))
    refine wpQuiet_nil ?_
    rintro _ ⟨y, rfl⟩
    go_wp2_with (first
      | (go_at_call 14; refine (in_after y (HD.out _ y.is)).mono ?_; rintro e w' ⟨y2, rfl, rfl⟩)
      | (go_at_call 13; refine (in_after y2 (alive_any _)).mono ?_; rintro e w' ⟨z, rfl, rfl⟩))
    go_ret
    exact ⟨rfl, etr HE0.out z.is⟩
  have hp0 : 0 < p.length := by omega
  have hz1 : ((p.length : Int) == 0) = false := beq_eq_false_iff_ne.2 (by omega)
  have hz2 : (p.length == 0) = false := beq_eq_false_iff_ne.2 (by omega)
  have hz3 : decide (p = []) = false := decide_eq_false (by intro e; subst e; simp at hp0)
  have hk1 : (0 : Int) ≤ (p.length : Int) - 1 := by omega
  have hk2 : (p.length : Int) - 1 < (p.length : Int) := by omega
  have hk3 : ((p.length : Int) - 1).toNat = p.length - 1 := by omega
  have hkw := IntWalk.i64_in ((p.length : Int) - 1) (by have := HF.out.len; omega)
  by_cases hls : lastT p < en
  · have HSH : Hid (p.length = 0 ∨ lastT p < en) := .inr hls
    have hlsd : decide (lastT p < en) = true := decide_eq_true hls
    clear h0 hls
    go_enter Try.func6, Try.ntmps6
    go_upto_region 2 with (fail)
    rw [← hw]
    clear hw
    have t0 := HCT.out.2 0 _ rfl
    have t1 := HCT.out.2 1 _ rfl
    have t2 := HCT.out.2 2 _ rfl
    have t3 := HCT.out.2 3 _ rfl
    have t4 := HCT.out.2 4 _ rfl
    have t5 := HCT.out.2 5 _ rfl
    have t6 := HCT.out.2 6 _ rfl
    have t7 := HCT.out.2 7 _ rfl
    have t8 := HCT.out.2 8 _ rfl
    have t9 := HCT.out.2 9 _ rfl
    have zt := HCT.out.1
    have a0 := HCA.out.2 0 _ rfl
    have a1 := HCA.out.2 1 _ rfl
    have a2 := HCA.out.2 2 _ rfl
    have a3 := HCA.out.2 3 _ rfl
    have za := HCA.out.1
    have s0 := HCS.out.2 0 _ rfl
    have s1 := HCS.out.2 1 _ rfl
    have s2 := HCS.out.2 2 _ rfl
    have s3 := HCS.out.2 3 _ rfl
    have zs := HCS.out.1
    have e0 := HCE.out.2 0 _ rfl
    have e1 := HCE.out.2 1 _ rfl
    have e2 := HCE.out.2 2 _ rfl
    have ze := HCE.out.1
    go_wp2_with fail
    refine (HFC.out _ (Ext.refl _)).mono ?_
    rintro e w2 ⟨rfl, hb2⟩
    have HX2 := Lib.hid hb2
    clear hb2
    replace HE0 := Lib.hid (etr HE0.out HX2.out)
    replace HCT := Lib.hid (HCT.out.keep HX2.out)
    replace HCA := Lib.hid (HCA.out.keep HX2.out)
    replace HCS := Lib.hid (HCS.out.keep HX2.out)
    replace HCE := Lib.hid (HCE.out.keep HX2.out)
    clear t0 t1 t2 t3 t4 t5 t6 t7 t8 t9 a0 a1 a2 a3 s0 s1 s2 s3 e0 e1 e2 zt za zs ze
    have t0 := HCT.out.2 0 _ rfl
    have t1 := HCT.out.2 1 _ rfl
    have t2 := HCT.out.2 2 _ rfl
    have t3 := HCT.out.2 3 _ rfl
    have t4 := HCT.out.2 4 _ rfl
    have t5 := HCT.out.2 5 _ rfl
    have t6 := HCT.out.2 6 _ rfl
    have t7 := HCT.out.2 7 _ rfl
    have t8 := HCT.out.2 8 _ rfl
    have t9 := HCT.out.2 9 _ rfl
    have zt := HCT.out.1
    have a0 := HCA.out.2 0 _ rfl
    have a1 := HCA.out.2 1 _ rfl
    have a2 := HCA.out.2 2 _ rfl
    have a3 := HCA.out.2 3 _ rfl
    have za := HCA.out.1
    have s0 := HCS.out.2 0 _ rfl
    have s1 := HCS.out.2 1 _ rfl
    have s2 := HCS.out.2 2 _ rfl
    have s3 := HCS.out.2 3 _ rfl
    have zs := HCS.out.1
    have e0 := HCE.out.2 0 _ rfl
    have e1 := HCE.out.2 1 _ rfl
    have e2 := HCE.out.2 2 _ rfl
    have ze := HCE.out.1
    go_wp2_with fail
    refine (HLC.out _ HX2.out).mono ?_
    rintro e w3 ⟨rfl, hb3⟩
    have HX3 := Lib.hid hb3
    clear hb3
    replace HE0 := Lib.hid (etr HE0.out HX3.out)
    replace HCT := Lib.hid (HCT.out.keep HX3.out)
    replace HCA := Lib.hid (HCA.out.keep HX3.out)
    replace HCS := Lib.hid (HCS.out.keep HX3.out)
    replace HCE := Lib.hid (HCE.out.keep HX3.out)
    clear t0 t1 t2 t3 t4 t5 t6 t7 t8 t9 a0 a1 a2 a3 s0 s1 s2 s3 e0 e1 e2 zt za zs ze
    have t0 := HCT.out.2 0 _ rfl
    have t1 := HCT.out.2 1 _ rfl
    have t2 := HCT.out.2 2 _ rfl
    have t3 := HCT.out.2 3 _ rfl
    have t4 := HCT.out.2 4 _ rfl
    have t5 := HCT.out.2 5 _ rfl
    have t6 := HCT.out.2 6 _ rfl
    have t7 := HCT.out.2 7 _ rfl
    have t8 := HCT.out.2 8 _ rfl
    have t9 := HCT.out.2 9 _ rfl
    have zt := HCT.out.1
    have a0 := HCA.out.2 0 _ rfl
    have a1 := HCA.out.2 1 _ rfl
    have a2 := HCA.out.2 2 _ rfl
    have a3 := HCA.out.2 3 _ rfl
    have za := HCA.out.1
    have s0 := HCS.out.2 0 _ rfl
    have s1 := HCS.out.2 1 _ rfl
    have s2 := HCS.out.2 2 _ rfl
    have s3 := HCS.out.2 3 _ rfl
    have zs := HCS.out.1
    have e0 := HCE.out.2 0 _ rfl
    have e1 := HCE.out.2 1 _ rfl
    have e2 := HCE.out.2 2 _ rfl
    have ze := HCE.out.1
    go_upto_region 7 with (fail)
    obtain ⟨w4, hw4⟩ : ∃ w4, w4 = w3.alloc (.cells #[.int .i64 sq, .int .i64 (en - less), .slice A p.length cap, .slice LA ln lc] 27) := ⟨_, rfl⟩
    have hq : Ext w3 w4 := by rw [hw4]; exact eal (Ext.refl _) _
    have HCB : Hid (CellsAt w4 w3.heap.size [.int .i64 sq, .int .i64 (en - less), .slice A p.length cap, .slice LA ln lc]) := by rw [hw4]; exact CellsAt.new rfl
    rw [← hw4]
    clear hw4
    replace HE0 := Lib.hid (etr HE0.out hq)
    replace HCT := Lib.hid (HCT.out.keep hq)
    replace HCA := Lib.hid (HCA.out.keep hq)
    replace HCS := Lib.hid (HCS.out.keep hq)
    replace HCE := Lib.hid (HCE.out.keep hq)
    clear t0 t1 t2 t3 t4 t5 t6 t7 t8 t9 a0 a1 a2 a3 s0 s1 s2 s3 e0 e1 e2 zt za zs ze
    have t0 := HCT.out.2 0 _ rfl
    have t1 := HCT.out.2 1 _ rfl
    have t2 := HCT.out.2 2 _ rfl
    have t3 := HCT.out.2 3 _ rfl
    have t4 := HCT.out.2 4 _ rfl
    have t5 := HCT.out.2 5 _ rfl
    have t6 := HCT.out.2 6 _ rfl
    have t7 := HCT.out.2 7 _ rfl
    have t8 := HCT.out.2 8 _ rfl
    have t9 := HCT.out.2 9 _ rfl
    have zt := HCT.out.1
    have a0 := HCA.out.2 0 _ rfl
    have a1 := HCA.out.2 1 _ rfl
    have a2 := HCA.out.2 2 _ rfl
    have a3 := HCA.out.2 3 _ rfl
    have za := HCA.out.1
    have b0 := HCB.out.2 0 _ rfl
    have b1 := HCB.out.2 1 _ rfl
    have b2 := HCB.out.2 2 _ rfl
    have b3 := HCB.out.2 3 _ rfl
    have zb := HCB.out.1
    have s0 := HCS.out.2 0 _ rfl
    have s1 := HCS.out.2 1 _ rfl
    have s2 := HCS.out.2 2 _ rfl
    have s3 := HCS.out.2 3 _ rfl
    have zs := HCS.out.1
    have e0 := HCE.out.2 0 _ rfl
    have e1 := HCE.out.2 1 _ rfl
    have e2 := HCE.out.2 2 _ rfl
    have ze := HCE.out.1
    have HD : Hid (∀ xx, Ext w4 xx → Calls Try.prog 14 #[.agg #[.int .i64 T.id, .string T.name, .int .i64 T.len, .int .i64 T.speed, .int .i64 T.accel, .int .i64 T.service, .int .i64 T.emergency, .int .i64 T.delay, .int .i64 T.cons, .int .i64 T.rate], .agg #[.int .i64 sq, .int .i64 en, .slice A p.length cap, .slice LA ln lc], .agg #[.int .i64 E.min, .int .i64 E.max, .int .i64 E.speed], .int .i64 0] xx fun e w' => e = .returned (.int .i64 2) ∧ Below xx.heap.size xx w') := fun xx hx => by rw [← short_decides (T := T) (old := 0) HSH.out]; exact sdec_any T E sq en A LA p cap ln lc 0 xx (fits_len HF.out) HF.out.sup (HR.out.keep (etr HE0.out hx))
    obtain ⟨b, off, u1, hAe, hu1, hbs, l0, l1, l2, l3⟩ := rd_seg HR.out HE0.out (show p.length - 1 < p.length by omega)
    have hl : lastT p = u1.to_ := by unfold lastT; simp [List.getD_eq_getElem?_getD, hu1]
    rw [hl] at hlsd
    clear hu1 l0 l2 l3 hl
    rw [hAe]
    go_wp2_with fail
    refine wp_region_after (by kernel_rfl) (by kernel_rfl) ?_
    repeat (first | go_big_quiet_step (fail))
    refine wpQuiet_nil ?_
    rintro _ ⟨y, rfl⟩
    rw [← hAe]
    clear hAe l1 hbs
    go_wp2_with (first
      | (go_at_call 14; refine (in_after y (HD.out _ y.is)).mono ?_; rintro e w' ⟨y2, rfl, rfl⟩)
      | (go_at_call 13; refine (in_after y2 (alive_any _)).mono ?_; rintro e w' ⟨z, rfl, rfl⟩))
    go_ret
    exact ⟨rfl, etr HE0.out z.is⟩
  have hlsd : decide (lastT p < en) = false := decide_eq_false hls
  have SB : Hid (SupB T E (en - less)) := ⟨HF.out.sup.min, HF.out.sup.max, HF.out.sup.spd, by have := HF.out.en; omega, HF.out.sup.acc, HF.out.sup.len⟩
  have HNS : Hid (safeB T p E (en - less) = true → safeB T p E en = true) := near_safe (by omega) (by omega) HLV.out (by omega)
  have HND : Hid (∀ old, decdV T p E en old ≤ decdV T p E (en - less) old) := fun old => near_decides old (by omega) (by omega) HLV.out (by omega) HF.out.spd.1 HF.out.sup.acc.1
  clear h0 hls
  · have hdum := True.intro
    go_enter Try.func6, Try.ntmps6
    go_upto_region 2 with (fail)
    rw [← hw]
    clear hw
    have t0 := HCT.out.2 0 _ rfl
    have t1 := HCT.out.2 1 _ rfl
    have t2 := HCT.out.2 2 _ rfl
    have t3 := HCT.out.2 3 _ rfl
    have t4 := HCT.out.2 4 _ rfl
    have t5 := HCT.out.2 5 _ rfl
    have t6 := HCT.out.2 6 _ rfl
    have t7 := HCT.out.2 7 _ rfl
    have t8 := HCT.out.2 8 _ rfl
    have t9 := HCT.out.2 9 _ rfl
    have zt := HCT.out.1
    have a0 := HCA.out.2 0 _ rfl
    have a1 := HCA.out.2 1 _ rfl
    have a2 := HCA.out.2 2 _ rfl
    have a3 := HCA.out.2 3 _ rfl
    have za := HCA.out.1
    have s0 := HCS.out.2 0 _ rfl
    have s1 := HCS.out.2 1 _ rfl
    have s2 := HCS.out.2 2 _ rfl
    have s3 := HCS.out.2 3 _ rfl
    have zs := HCS.out.1
    have e0 := HCE.out.2 0 _ rfl
    have e1 := HCE.out.2 1 _ rfl
    have e2 := HCE.out.2 2 _ rfl
    have ze := HCE.out.1
    go_wp2_with fail
    refine (HFC.out _ (Ext.refl _)).mono ?_
    rintro e w2 ⟨rfl, hb2⟩
    have HX2 := Lib.hid hb2
    clear hb2
    replace HE0 := Lib.hid (etr HE0.out HX2.out)
    replace HCT := Lib.hid (HCT.out.keep HX2.out)
    replace HCA := Lib.hid (HCA.out.keep HX2.out)
    replace HCS := Lib.hid (HCS.out.keep HX2.out)
    replace HCE := Lib.hid (HCE.out.keep HX2.out)
    clear t0 t1 t2 t3 t4 t5 t6 t7 t8 t9 a0 a1 a2 a3 s0 s1 s2 s3 e0 e1 e2 zt za zs ze
    have t0 := HCT.out.2 0 _ rfl
    have t1 := HCT.out.2 1 _ rfl
    have t2 := HCT.out.2 2 _ rfl
    have t3 := HCT.out.2 3 _ rfl
    have t4 := HCT.out.2 4 _ rfl
    have t5 := HCT.out.2 5 _ rfl
    have t6 := HCT.out.2 6 _ rfl
    have t7 := HCT.out.2 7 _ rfl
    have t8 := HCT.out.2 8 _ rfl
    have t9 := HCT.out.2 9 _ rfl
    have zt := HCT.out.1
    have a0 := HCA.out.2 0 _ rfl
    have a1 := HCA.out.2 1 _ rfl
    have a2 := HCA.out.2 2 _ rfl
    have a3 := HCA.out.2 3 _ rfl
    have za := HCA.out.1
    have s0 := HCS.out.2 0 _ rfl
    have s1 := HCS.out.2 1 _ rfl
    have s2 := HCS.out.2 2 _ rfl
    have s3 := HCS.out.2 3 _ rfl
    have zs := HCS.out.1
    have e0 := HCE.out.2 0 _ rfl
    have e1 := HCE.out.2 1 _ rfl
    have e2 := HCE.out.2 2 _ rfl
    have ze := HCE.out.1
    go_wp2_with fail
    refine (HLC.out _ HX2.out).mono ?_
    rintro e w3 ⟨rfl, hb3⟩
    have HX3 := Lib.hid hb3
    clear hb3
    replace HE0 := Lib.hid (etr HE0.out HX3.out)
    replace HCT := Lib.hid (HCT.out.keep HX3.out)
    replace HCA := Lib.hid (HCA.out.keep HX3.out)
    replace HCS := Lib.hid (HCS.out.keep HX3.out)
    replace HCE := Lib.hid (HCE.out.keep HX3.out)
    clear t0 t1 t2 t3 t4 t5 t6 t7 t8 t9 a0 a1 a2 a3 s0 s1 s2 s3 e0 e1 e2 zt za zs ze
    have t0 := HCT.out.2 0 _ rfl
    have t1 := HCT.out.2 1 _ rfl
    have t2 := HCT.out.2 2 _ rfl
    have t3 := HCT.out.2 3 _ rfl
    have t4 := HCT.out.2 4 _ rfl
    have t5 := HCT.out.2 5 _ rfl
    have t6 := HCT.out.2 6 _ rfl
    have t7 := HCT.out.2 7 _ rfl
    have t8 := HCT.out.2 8 _ rfl
    have t9 := HCT.out.2 9 _ rfl
    have zt := HCT.out.1
    have a0 := HCA.out.2 0 _ rfl
    have a1 := HCA.out.2 1 _ rfl
    have a2 := HCA.out.2 2 _ rfl
    have a3 := HCA.out.2 3 _ rfl
    have za := HCA.out.1
    have s0 := HCS.out.2 0 _ rfl
    have s1 := HCS.out.2 1 _ rfl
    have s2 := HCS.out.2 2 _ rfl
    have s3 := HCS.out.2 3 _ rfl
    have zs := HCS.out.1
    have e0 := HCE.out.2 0 _ rfl
    have e1 := HCE.out.2 1 _ rfl
    have e2 := HCE.out.2 2 _ rfl
    have ze := HCE.out.1
    go_upto_region 7 with (fail)
    obtain ⟨w4, hw4⟩ : ∃ w4, w4 = w3.alloc (.cells #[.int .i64 sq, .int .i64 (en - less), .slice A p.length cap, .slice LA ln lc] 27) := ⟨_, rfl⟩
    have hq : Ext w3 w4 := by rw [hw4]; exact eal (Ext.refl _) _
    have HCB : Hid (CellsAt w4 w3.heap.size [.int .i64 sq, .int .i64 (en - less), .slice A p.length cap, .slice LA ln lc]) := by rw [hw4]; exact CellsAt.new rfl
    rw [← hw4]
    clear hw4
    replace HE0 := Lib.hid (etr HE0.out hq)
    replace HCT := Lib.hid (HCT.out.keep hq)
    replace HCA := Lib.hid (HCA.out.keep hq)
    replace HCS := Lib.hid (HCS.out.keep hq)
    replace HCE := Lib.hid (HCE.out.keep hq)
    clear t0 t1 t2 t3 t4 t5 t6 t7 t8 t9 a0 a1 a2 a3 s0 s1 s2 s3 e0 e1 e2 zt za zs ze
    have t0 := HCT.out.2 0 _ rfl
    have t1 := HCT.out.2 1 _ rfl
    have t2 := HCT.out.2 2 _ rfl
    have t3 := HCT.out.2 3 _ rfl
    have t4 := HCT.out.2 4 _ rfl
    have t5 := HCT.out.2 5 _ rfl
    have t6 := HCT.out.2 6 _ rfl
    have t7 := HCT.out.2 7 _ rfl
    have t8 := HCT.out.2 8 _ rfl
    have t9 := HCT.out.2 9 _ rfl
    have zt := HCT.out.1
    have a0 := HCA.out.2 0 _ rfl
    have a1 := HCA.out.2 1 _ rfl
    have a2 := HCA.out.2 2 _ rfl
    have a3 := HCA.out.2 3 _ rfl
    have za := HCA.out.1
    have b0 := HCB.out.2 0 _ rfl
    have b1 := HCB.out.2 1 _ rfl
    have b2 := HCB.out.2 2 _ rfl
    have b3 := HCB.out.2 3 _ rfl
    have zb := HCB.out.1
    have s0 := HCS.out.2 0 _ rfl
    have s1 := HCS.out.2 1 _ rfl
    have s2 := HCS.out.2 2 _ rfl
    have s3 := HCS.out.2 3 _ rfl
    have zs := HCS.out.1
    have e0 := HCE.out.2 0 _ rfl
    have e1 := HCE.out.2 1 _ rfl
    have e2 := HCE.out.2 2 _ rfl
    have ze := HCE.out.1
    obtain ⟨b, off, u1, hAe, hu1, hbs, l0, l1, l2, l3⟩ := rd_seg HR.out HE0.out (show p.length - 1 < p.length by omega)
    have hl : lastT p = u1.to_ := by unfold lastT; simp [List.getD_eq_getElem?_getD, hu1]
    rw [hl] at hlsd
    clear hu1 l0 l2 l3 hl
    rw [hAe]
    go_wp2_with fail
    refine wp_region_after (by kernel_rfl) (by kernel_rfl) ?_
    repeat (first | go_big_quiet_step (fail))
    refine wpQuiet_nil ?_
    rintro _ ⟨y, rfl⟩
    have HY := Lib.hid y.is
    obtain ⟨w5, hw5⟩ : ∃ w5, w5 = y.val := ⟨_, rfl⟩
    rw [← hw5] at HY ⊢
    clear hw5
    clear t0 t1 t2 t3 t4 t5 t6 t7 t8 t9 a0 a1 a2 a3 b0 b1 b2 b3 s0 s1 s2 s3 e0 e1 e2 zt za zb zs ze
    rw [← hAe]
    clear hAe l1 hbs
    replace HE0 := Lib.hid (etr HE0.out HY.out)
    replace HCT := Lib.hid (HCT.out.keep HY.out)
    replace HCA := Lib.hid (HCA.out.keep HY.out)
    replace HCS := Lib.hid (HCS.out.keep HY.out)
    replace HCE := Lib.hid (HCE.out.keep HY.out)
    replace HCB := Lib.hid (HCB.out.keep HY.out)
    have HX := Lib.hid (rdi_of (w := w5.alloc (.cells #[.int .i64 0, .int .i64 1, .int .i64 2] 3)) (b := w5.heap.size) (xs := olds3) (CellsAt.new rfl))
    have HX1 := Lib.hid (eal (Ext.refl w5) (.cells #[.int .i64 0, .int .i64 1, .int .i64 2] 3))
    go_wp2_with fail
    obtain ⟨w6, hw6⟩ : ∃ w6, w6 = w5.alloc (.cells #[.int .i64 0, .int .i64 1, .int .i64 2] 3) := ⟨_, rfl⟩
    rw [← hw6] at HX HX1 ⊢
    clear hw6
    go_loopg [85] 3 (fun g i wr => ∃ j : Nat, i = .int .i64 j ∧ j ≤ 3 ∧ g = 3 - j ∧ Hid (Ext w6 wr))
    case atStart => exact ⟨0, rfl, by omega, rfl, Ext.refl _⟩
    case round =>
      obtain ⟨j, rfl, hj, hg, H⟩ := hrel
      have HG := Lib.hid hg
      clear hg
      have HCTq := Lib.hid ((HCT.out.keep HX1.out).keep H.out)
      have HCAq := Lib.hid ((HCA.out.keep HX1.out).keep H.out)
      have HCBq := Lib.hid ((HCB.out.keep HX1.out).keep H.out)
      have HCSq := Lib.hid ((HCS.out.keep HX1.out).keep H.out)
      have HCEq := Lib.hid ((HCE.out.keep HX1.out).keep H.out)
      have t0 := HCTq.out.2 0 _ rfl
      have t1 := HCTq.out.2 1 _ rfl
      have t2 := HCTq.out.2 2 _ rfl
      have t3 := HCTq.out.2 3 _ rfl
      have t4 := HCTq.out.2 4 _ rfl
      have t5 := HCTq.out.2 5 _ rfl
      have t6 := HCTq.out.2 6 _ rfl
      have t7 := HCTq.out.2 7 _ rfl
      have t8 := HCTq.out.2 8 _ rfl
      have t9 := HCTq.out.2 9 _ rfl
      have zt := HCTq.out.1
      have a0 := HCAq.out.2 0 _ rfl
      have a1 := HCAq.out.2 1 _ rfl
      have a2 := HCAq.out.2 2 _ rfl
      have a3 := HCAq.out.2 3 _ rfl
      have za := HCAq.out.1
      have b0 := HCBq.out.2 0 _ rfl
      have b1 := HCBq.out.2 1 _ rfl
      have b2 := HCBq.out.2 2 _ rfl
      have b3 := HCBq.out.2 3 _ rfl
      have zb := HCBq.out.1
      have s0 := HCSq.out.2 0 _ rfl
      have s1 := HCSq.out.2 1 _ rfl
      have s2 := HCSq.out.2 2 _ rfl
      have s3 := HCSq.out.2 3 _ rfl
      have zs := HCSq.out.1
      have e0 := HCEq.out.2 0 _ rfl
      have e1 := HCEq.out.2 1 _ rfl
      have e2 := HCEq.out.2 2 _ rfl
      have ze := HCEq.out.1
      by_cases hlt : j < 3
      · obtain ⟨bq, offq, hA, hb, hc⟩ := HX.out (by simp [olds3])
        simp only [Option.some.injEq, Addr.mk.injEq] at hA
        obtain ⟨rfl, rfl, -⟩ := hA
        have c0 := (H.out.cell (p := ⟨w5.heap.size, 0 + j, none⟩) hb).trans (hc j (by simpa [olds3] using hlt))
        obtain ⟨x, hx⟩ : ∃ x, olds3[j]? = some x := ⟨_, List.getElem?_eq_getElem (by simpa [olds3] using hlt)⟩
        have e : olds3.getD j 0 = x := by rw [List.getD_eq_getElem?_getD, hx]; rfl
        rw [e, Nat.zero_add] at c0
        have hbz : w5.heap.size < wr.heap.size := Nat.lt_of_lt_of_le hb H.out.size
        clear hc e hx hb
        obtain ⟨da, hda⟩ : ∃ da, da = decdV T p E en x := ⟨_, rfl⟩
        obtain ⟨db, hdb⟩ : ∃ db, db = decdV T p E (en - less) x := ⟨_, rfl⟩
        have q9 : decide (db < da) = false := decide_eq_false (by have := HND.out x; omega)
        have HDA : Hid (∀ xx, Ext wr xx → Calls Try.prog 14 #[.agg #[.int .i64 T.id, .string T.name, .int .i64 T.len, .int .i64 T.speed, .int .i64 T.accel, .int .i64 T.service, .int .i64 T.emergency, .int .i64 T.delay, .int .i64 T.cons, .int .i64 T.rate], .agg #[.int .i64 sq, .int .i64 en, .slice A p.length cap, .slice LA ln lc], .agg #[.int .i64 E.min, .int .i64 E.max, .int .i64 E.speed], .int .i64 x] xx fun e w' => e = .returned (.int .i64 da) ∧ Below xx.heap.size xx w') := fun xx hx => by rw [hda]; exact sdec_any T E sq en A LA p cap ln lc _ xx (fits_len HF.out) HF.out.sup (HR.out.keep (etr (etr HE0.out (etr HX1.out H.out)) hx))
        have HDB : Hid (∀ xx, Ext wr xx → Calls Try.prog 14 #[.agg #[.int .i64 T.id, .string T.name, .int .i64 T.len, .int .i64 T.speed, .int .i64 T.accel, .int .i64 T.service, .int .i64 T.emergency, .int .i64 T.delay, .int .i64 T.cons, .int .i64 T.rate], .agg #[.int .i64 sq, .int .i64 (en - less), .slice A p.length cap, .slice LA ln lc], .agg #[.int .i64 E.min, .int .i64 E.max, .int .i64 E.speed], .int .i64 x] xx fun e w' => e = .returned (.int .i64 db) ∧ Below xx.heap.size xx w') := fun xx hx => by rw [hdb]; exact sdec_any T E sq (en - less) A LA p cap ln lc _ xx (fits_len HF.out) SB.out (HR.out.keep (etr (etr HE0.out (etr HX1.out H.out)) hx))
        clear hda hdb
        go_wp2_with fail
        refine wp_region_after (by kernel_rfl) (by kernel_rfl) ?_
        repeat (first | go_big_quiet_step ((go_at_call 14; first | with_reducible exact after_call _ (HDB.out _ (After.is _)) | with_reducible exact after_call _ (HDA.out _ (After.is _)))))
        refine wpQuiet_nil ?_
        rintro _ ⟨y7, rfl⟩
        go_wp2
        go_roundg (3 - (j + 1))
        case measure => have := HG.out; omega
        case rel => exact ⟨j + 1, by go_num, by omega, rfl, etr H.out y7.is⟩
      · obtain ⟨sa, hsa⟩ : ∃ sa, sa = safeB T p E en := ⟨_, rfl⟩
        obtain ⟨sbb, hsb⟩ : ∃ sbb, sbb = safeB T p E (en - less) := ⟨_, rfl⟩
        have himp : sbb = true → sa = true := by rw [hsa, hsb]; exact HNS.out
        have HSA : Hid (∀ xx, Ext wr xx → Calls Try.prog 9 #[.agg #[.int .i64 T.id, .string T.name, .int .i64 T.len, .int .i64 T.speed, .int .i64 T.accel, .int .i64 T.service, .int .i64 T.emergency, .int .i64 T.delay, .int .i64 T.cons, .int .i64 T.rate], .agg #[.int .i64 sq, .int .i64 en, .slice A p.length cap, .slice LA ln lc], .agg #[.int .i64 E.min, .int .i64 E.max, .int .i64 E.speed]] xx fun e w' => e = .returned (.bool sa) ∧ Below xx.heap.size xx w') := fun xx hx => by rw [hsa]; exact supsafe_any T E sq en A LA p cap ln lc xx (fits_len HF.out) HF.out.sup (HR.out.keep (etr (etr HE0.out (etr HX1.out H.out)) hx))
        have HSB : Hid (∀ xx, Ext wr xx → Calls Try.prog 9 #[.agg #[.int .i64 T.id, .string T.name, .int .i64 T.len, .int .i64 T.speed, .int .i64 T.accel, .int .i64 T.service, .int .i64 T.emergency, .int .i64 T.delay, .int .i64 T.cons, .int .i64 T.rate], .agg #[.int .i64 sq, .int .i64 (en - less), .slice A p.length cap, .slice LA ln lc], .agg #[.int .i64 E.min, .int .i64 E.max, .int .i64 E.speed]] xx fun e w' => e = .returned (.bool sbb) ∧ Below xx.heap.size xx w') := fun xx hx => by rw [hsb]; exact supsafe_any T E sq (en - less) A LA p cap ln lc xx (fits_len HF.out) SB.out (HR.out.keep (etr (etr HE0.out (etr HX1.out H.out)) hx))
        clear hsa hsb
        cases sbb
        · clear himp HSA
          go_wp2_with fail
          refine (to_after (HSB.out _ (Ext.refl _))).mono ?_
          rintro e w' ⟨y8, rfl, rfl⟩
          go_wp2_with (go_at_call 13; refine (in_after y8 (alive_any _)).mono ?_; rintro e w' ⟨z, rfl, rfl⟩)
          go_ret
          exact ⟨rfl, etr (etr HE0.out (etr HX1.out H.out)) z.is⟩
        · obtain rfl := himp rfl
          clear himp
          go_wp2_with fail
          refine (to_after (HSB.out _ (Ext.refl _))).mono ?_
          rintro e w' ⟨y8, rfl, rfl⟩
          go_wp2_with fail
          refine (in_after y8 (HSA.out _ y8.is)).mono ?_
          rintro e w' ⟨y9, rfl, rfl⟩
          go_wp2_with (go_at_call 13; refine (in_after y9 (alive_any _)).mono ?_; rintro e w' ⟨z, rfl, rfl⟩)
          go_ret
          exact ⟨rfl, etr (etr HE0.out (etr HX1.out H.out)) z.is⟩

end Go.Proofs.Ythkknagicdanfaa
