/- Walks of chapter 41's laws: PairAsks, PairConfirms, PairExpires. -/
import Derived.Test.YtcodpbiefidmkaaWLawF
set_option linter.unusedVariables false
set_option linter.unusedSimpArgs false
namespace Go.Proofs.Ytcodpbiefidmkaa
open Go.ChangeShapes Go.WideShapes Go.ChangeAt Go.RowKit
open Sg

theorem sml_self (l : List Prq) : sml_pr l l = true := sml_pr_true.2 rfl
set_option maxHeartbeats 8000000 in
theorem asks_walk (A : Option Addr) (l : List Prq) (c : Nat) (p : Prq) (w : World) (hm : l.length ≤ maxLen) (hp : PrqI p) (hI : ∀ (i : Nat) x, l[i]? = some x → PrqI x) (hr : Rd w A 4 Prc l) :
    Calls Try.prog 3 #[.slice A l.length c, .agg #[.int .i64 p.kind, .int .i64 p.subject, .int .i64 p.since, .string p.by_]] w fun e w' => e = .returned (.bool true) ∧ Below w.heap.size w w' := by
  have HM := Lib.hid hm
  have HP := Lib.hid hp
  have HI := Lib.hid hI
  have HR := Lib.hid hr
  clear hr hp hI
  cases hlg : largeB l p.by_ with
  | true =>
    have HLG := Lib.hid hlg
    clear hlg
    go_enter Try.func3, Try.ntmps3
    go_wp2_with fail
    refine (to_after (large_any A l c p.by_ _ HM.out HP.out.2.2.2 HI.out (HR.out.keep (eal (Ext.refl _) _)))).mono ?_
    rintro e w' ⟨y1, rfl, rfl⟩
    rw [HLG.out]
    go_wp2_with fail
    refine (in_after y1 (alive_any _)).mono ?_
    rintro e w' ⟨y2, rfl, rfl⟩
    go_wp2_with fail
    go_ret
    exact ⟨rfl, etr (eal (Ext.refl _) _) y2.is⟩
  | false =>
    have hs := (largeB_false.1 hlg).1
    have HLG := Lib.hid hlg
    clear hlg
    go_enter Try.func3, Try.ntmps3
    go_wp2_with fail
    refine (to_after (large_any A l c p.by_ _ HM.out HP.out.2.2.2 HI.out (HR.out.keep (eal (Ext.refl _) _)))).mono ?_
    rintro e w' ⟨y1, rfl, rfl⟩
    rw [HLG.out]
    go_wp2_with fail
    refine (ask_any A l c p _ (by omega) HP.out (HR.out.keep (etr (eal (Ext.refl _) _) y1.is))).mono ?_
    rintro e w2 ⟨v2, rfl, ho2, hb2⟩
    obtain ⟨A2, cap2, rfl, hr2, hm2⟩ := ho2.rd Prc_len
    have HR2 := Lib.hid hr2
    have HM2 := Lib.hid hm2
    have HB2 := Lib.hid (etr (etr (eal (Ext.refl w) _) y1.is) hb2)
    have CB := ((CellsAt.new (w := w) (cs := (Prc p).toArray) (t := 24) rfl).keep y1.is).keep hb2
    have b0 := CB.2 0 _ rfl
    have b1 := CB.2 1 _ rfl
    have b2 := CB.2 2 _ rfl
    have b3 := CB.2 3 _ rfl
    have bz := CB.1
    clear CB ho2 hr2 hm2 hb2
    go_wp2_with fail
    refine (rask_any A l c p _ (by omega) HP.out (HR.out.keep HB2.out)).mono ?_
    rintro e w3 ⟨v3, rfl, ho3, hb3⟩
    obtain ⟨A3, cap3, rfl, hr3, _⟩ := ho3.rd Prc_len
    have HR3 := Lib.hid hr3
    have HB3 := Lib.hid hb3
    clear ho3 hr3 hb3
    go_wp2_with fail
    refine (to_after (same_pr A2 A3 (askL l p) (askL l p) cap2 cap3 _ HM2.out HM2.out (HR2.out.keep HB3.out) HR3.out)).mono ?_
    rintro e w' ⟨y4, rfl, rfl⟩
    rw [sml_self]
    go_wp2_with fail
    refine (in_after y4 (alive_any _)).mono ?_
    rintro e w' ⟨y5, rfl, rfl⟩
    go_wp2_with fail
    go_ret
    exact ⟨rfl, etr (etr HB2.out HB3.out) y5.is⟩
set_option maxHeartbeats 8000000 in
theorem confirms_walk (A : Option Addr) (l : List Prq) (c : Nat) (k s : Int) (by_ : ByteArray) (now : Int) (w : World) (hm : l.length ≤ maxLen) (hc : l.length ≤ c) (hn : I64 now) (hb : by_.size ≤ maxLen) (hI : ∀ (i : Nat) x, l[i]? = some x → PrqI x) (hr : Rd w A 4 Prc l) :
    Calls Try.prog 4 #[.slice A l.length c, .int .i64 k, .int .i64 s, .string by_, .int .i64 now] w fun e w' => e = .returned (.bool true) ∧ Below w.heap.size w w' := by
  have HM := Lib.hid hm
  have HN := Lib.hid hn
  have HB := Lib.hid hb
  have HI := Lib.hid hI
  have HR := Lib.hid hr
  clear hr hn hb hI
  cases hlg : largeB l by_ with
  | true =>
    have HLG := Lib.hid hlg
    clear hlg
    go_enter Try.func4, Try.ntmps4
    go_wp2_with fail
    refine (to_after (large_any A l c by_ _ HM.out HB.out HI.out HR.out)).mono ?_
    rintro e w' ⟨y1, rfl, rfl⟩
    rw [HLG.out]
    go_wp2_with fail
    refine (in_after y1 (alive_any _)).mono ?_
    rintro e w' ⟨y2, rfl, rfl⟩
    go_wp2_with fail
    go_ret
    exact ⟨rfl, y2.is⟩
  | false =>
    have hs := (largeB_false.1 hlg).1
    have HLG := Lib.hid hlg
    clear hlg
    go_enter Try.func4, Try.ntmps4
    go_wp2_with fail
    refine (to_after (large_any A l c by_ _ HM.out HB.out HI.out HR.out)).mono ?_
    rintro e w' ⟨y1, rfl, rfl⟩
    rw [HLG.out]
    go_wp2_with fail
    refine (confirm_any A l c k s by_ now _ (by omega) hc HN.out HB.out HI.out (HR.out.keep y1.is)).mono ?_
    rintro e w2 ⟨v2, rfl, ho2, hb2⟩
    obtain ⟨A2, cap2, rfl, hr2, hm2⟩ := ho2.rd Prc_len
    have HR2 := Lib.hid hr2
    have HM2 := Lib.hid hm2
    have HB2 := Lib.hid (etr y1.is hb2)
    clear ho2 hr2 hm2 hb2
    obtain ⟨cp, hcp⟩ : ∃ cp, cp = conP l k s by_ now := ⟨_, rfl⟩
    rw [← hcp]
    have HCP := Lib.hid hcp
    clear hcp
    go_wp2_with fail
    refine (rconfirm_any A l c k s by_ now _ (by omega) HN.out HB.out HI.out (HR.out.keep (eal HB2.out _))).mono ?_
    rintro e w3 ⟨v3, rfl, ho3, hb3⟩
    rw [← HCP.out]
    obtain ⟨A3, cap3, rfl, hr3, _⟩ := ho3.rd Prc_len
    have HR3 := Lib.hid hr3
    have HB3 := Lib.hid hb3
    have CB := (CellsAt.new (w := w2) (cs := (Prc cp).toArray) (t := 24) rfl).keep hb3
    have b0 := CB.2 0 _ rfl
    have b1 := CB.2 1 _ rfl
    have b2 := CB.2 2 _ rfl
    have b3 := CB.2 3 _ rfl
    have bz := CB.1
    have bz1 : w2.heap.size < w3.heap.size + 1 := by omega
    clear CB ho3 hr3 hb3
    go_wp2_with fail
    refine (to_after (same_pr A2 A3 (conL l k s by_ now) (conL l k s by_ now) cap2 cap3 _ HM2.out HM2.out (HR2.out.keep (eal (etr (eal (Ext.refl _) _) HB3.out) _)) (HR3.out.keep (eal (Ext.refl _) _)))).mono ?_
    rintro e w' ⟨y4, rfl, rfl⟩
    rw [sml_self]
    have bz2 : w2.heap.size < y4.val.heap.size := by have := y4.is.size; simp at this; omega
    go_wp2_with fail
    refine (in_after y4 (alive_any _)).mono ?_
    rintro e w' ⟨y5, rfl, rfl⟩
    go_wp2_with fail
    go_ret
    exact ⟨rfl, etr (eal (etr (eal HB2.out _) HB3.out) _) y5.is⟩
theorem exp_exp (l : List Prq) (now : Int) : expL (expL l now) now = expL l now := by unfold expL; rw [List.filter_filter]; simp
theorem exp_I {l : List Prq} (now : Int) (hI : ∀ (i : Nat) x, l[i]? = some x → PrqI x) : ∀ (i : Nat) x, (expL l now)[i]? = some x → PrqI x := fun i x h => by
  have hx : x ∈ expL l now := by obtain ⟨hl, rfl⟩ := List.getElem?_eq_some_iff.1 h; exact List.getElem_mem hl
  have hx2 := (List.mem_filter.1 hx).1
  obtain ⟨j, hj, rfl⟩ := List.getElem_of_mem hx2
  exact hI j _ (List.getElem?_eq_getElem hj)
set_option maxHeartbeats 8000000 in
theorem expires_walk (A : Option Addr) (l : List Prq) (c : Nat) (now : Int) (w : World) (hm : l.length ≤ maxLen) (hn : I64 now) (hI : ∀ (i : Nat) x, l[i]? = some x → PrqI x) (hr : Rd w A 4 Prc l) :
    Calls Try.prog 5 #[.slice A l.length c, .int .i64 now] w fun e w' => e = .returned (.bool true) ∧ Below w.heap.size w w' := by
  have HM := Lib.hid hm
  have HN := Lib.hid hn
  have HI := Lib.hid hI
  have HR := Lib.hid hr
  clear hr hn hI
  cases hlg : largeB l ⟨#[]⟩ with
  | true =>
    have HLG := Lib.hid hlg
    clear hlg
    go_enter Try.func5, Try.ntmps5
    go_wp2_with fail
    refine (to_after (large_any A l c ⟨#[]⟩ _ HM.out (by show 0 ≤ _; omega) HI.out HR.out)).mono ?_
    rintro e w' ⟨y1, rfl, rfl⟩
    rw [HLG.out]
    go_wp2_with fail
    refine (in_after y1 (alive_any _)).mono ?_
    rintro e w' ⟨y2, rfl, rfl⟩
    go_wp2_with fail
    go_ret
    exact ⟨rfl, y2.is⟩
  | false =>
    have hs := (largeB_false.1 hlg).1
    have hel := expL_len l now
    have HLG := Lib.hid hlg
    clear hlg
    go_enter Try.func5, Try.ntmps5
    go_wp2_with fail
    refine (to_after (large_any A l c ⟨#[]⟩ _ HM.out (by show 0 ≤ _; omega) HI.out HR.out)).mono ?_
    rintro e w' ⟨y1, rfl, rfl⟩
    rw [HLG.out]
    go_wp2_with fail
    refine (expire_any A l c now _ (by omega) HN.out HI.out (HR.out.keep y1.is)).mono ?_
    rintro e w2 ⟨v2, rfl, ho2, hb2⟩
    obtain ⟨A2, cap2, rfl, hr2, hm2⟩ := ho2.rd Prc_len
    have HR2 := Lib.hid hr2
    have HM2 := Lib.hid hm2
    have HB2 := Lib.hid (etr y1.is hb2)
    clear ho2 hr2 hm2 hb2
    go_wp2_with fail
    refine (rexpire_any A l c now _ (by omega) HN.out HI.out (HR.out.keep HB2.out)).mono ?_
    rintro e w3 ⟨v3, rfl, ho3, hb3⟩
    obtain ⟨A3, cap3, rfl, hr3, _⟩ := ho3.rd Prc_len
    have HR3 := Lib.hid hr3
    have HB3 := Lib.hid hb3
    clear ho3 hr3 hb3
    go_wp2_with fail
    refine (to_after (same_pr A2 A3 (expL l now) (expL l now) cap2 cap3 _ HM2.out HM2.out (HR2.out.keep HB3.out) HR3.out)).mono ?_
    rintro e w' ⟨y4, rfl, rfl⟩
    rw [sml_self]
    go_wp2_with fail
    refine (expire_any A2 (expL l now) cap2 now _ (by omega) HN.out (exp_I now HI.out) (HR2.out.keep (etr HB3.out y4.is))).mono ?_
    rintro e w5 ⟨v5, rfl, ho5, hb5⟩
    rw [exp_exp] at ho5
    obtain ⟨A5, cap5, rfl, hr5, _⟩ := ho5.rd Prc_len
    have HR5 := Lib.hid hr5
    have HB5 := Lib.hid hb5
    clear ho5 hr5 hb5
    go_wp2_with fail
    refine (to_after (same_pr A5 A2 (expL l now) (expL l now) cap5 cap2 _ HM2.out HM2.out HR5.out (HR2.out.keep (etr (etr HB3.out y4.is) HB5.out)))).mono ?_
    rintro e w' ⟨y6, rfl, rfl⟩
    rw [sml_self]
    go_wp2_with fail
    refine (in_after y6 (alive_any _)).mono ?_
    rintro e w' ⟨y7, rfl, rfl⟩
    go_wp2_with fail
    go_ret
    exact ⟨rfl, etr (etr (etr (etr HB2.out HB3.out) y4.is) HB5.out) y7.is⟩
end Go.Proofs.Ytcodpbiefidmkaa
