/- Walk of signallingref07.named: it returns. -/
import Derived.Test.YtoodehilgogomaaDoorWChkC
import Derived.Test.YtoodehilgogomaaDoorMonoB
set_option linter.unusedVariables false
set_option linter.unusedSimpArgs false
set_option maxRecDepth 100000
namespace Go.Proofs.YtoodehilgogomaaDoor
open Go.ChangeShapes Go.WideShapes Go.ChangeAt Go.RowKit
open Sg

/-- append of a list, at the operation. -/
theorem wp_appO {α : Type} {P : Program} {u w : World} {o : Oper} {a : Act} {K : Act → World → Prop} {Q : Exit → Act → World → Prop} {e : TypeId} {k bytes : Nat} {enc : α → List Value} {v : Value} {xs : List α} {t : TypeId} {i : TypeInfo} {z : Value} {s x : Operand}
    (hk : ∀ x, (enc x).length = k) (hone : ∀ x, ∀ u ∈ enc x, u.oneCell' = true) (ht : P.underlying t = some (.slice e)) (hi : P.info? e = some i) (hz : i.zero = some z) (hsize : i.size = k) (hby : i.bytes = bytes) (hzs : z.cells.size = k) (hsz : 0 < k)
    (ho : o.op = .call { callee := .builtin .append, args := #[s, x], argTypes := #[t, t] }) (hs : a.eval s = v) (hown : OwnL w u.heap.size e k enc v xs) (hE : Ext u w) (ys : List α) (A : Option Addr) (c : Nat) (hx : a.eval x = .slice A ys.length c) (hr : Rd w A k enc ys)
    (hlen : (xs.length + ys.length) * bytes ≤ 140737488355328) (hlen2 : xs.length + ys.length ≤ maxLen)
    (h : ∀ v' w', Hid (OwnL w' u.heap.size e k enc v' (xs ++ ys) ∧ Ext u w' ∧ w.grownBy w' v.ownBlock) → K (a.put o.dst v') w') : o.wp P a w K Q := by
  have hown2 : w.ownsRow u.heap.size e k v xs.length (xs.flatMap enc) := hown
  obtain ⟨v', w', hrun, h2, h3, h4⟩ : ∃ v' w', (Builtin.append_ #[t, t] o.type #[v, .slice A ys.length c]).run P w = .ok v' w' ∧ OwnL w' u.heap.size e k enc v' (xs ++ ys) ∧ w.grownBy w' v.ownBlock ∧ (v'.ownBlock = v.ownBlock ∨ v'.ownBlock = some w.heap.size) := by
    by_cases hy : ys = []
    · subst hy
      rcases A with _ | ad
      · exact ⟨v, w, run_append_of_nil w u.heap.size t o.type e i k ht hi v _ _ hown2 c, by simpa using hown, World.grownBy.refl w _, .inl rfl⟩
      · obtain ⟨v', w', hrun, h2, h3, _, h5⟩ := run_append_own_at (P := P) w u.heap.size t o.type e i z k bytes ht hi hz hsize hby hzs hsz v xs.length _ hown2 ad 0 c [] (by simp) (fun j u hj => by simp at hj) (fun u hu => by cases hu) (by simpa using hlen2) (by simpa using hlen) (esz hE)
        exact ⟨v', w', hrun, by unfold OwnL; simpa using h2, h3, h5⟩
    · have hp : 0 < ys.length := List.length_pos_iff.2 hy
      obtain ⟨b, off, rfl, hb, hc⟩ := hr hp
      obtain ⟨v', w', hrun, h2, h3, _, h5⟩ := run_append_own_at (P := P) w u.heap.size t o.type e i z k bytes ht hi hz hsize hby hzs hsz v xs.length _ hown2 ⟨b, off, none⟩ ys.length c (ys.flatMap enc) (flat_len' hk ys) (flat_cells hk hc hsz) (flat_one hone ys) hlen2 hlen (esz hE)
      exact ⟨v', w', hrun, by unfold OwnL; rw [List.length_append, List.flatMap_append]; exact h2, h3, h5⟩
  unfold Oper.wp execOp
  simp only [ho, resolve, invoke, builtin, Sem.run_bind, Sem.run_pure, Result.andThen_ok, List.map_toArray, List.map_cons, List.map_nil, hs, hx, hrun]
  exact h v' w' ⟨h2, OwnL.app_below hE (esz hE) (fun b hb => (hown.lt b hb).1) h3, h3⟩
theorem fine_app {xs ys : List ByteArray} (h : ∀ x ∈ xs, x.size ≤ maxLen) (g : ∀ x ∈ ys, x.size ≤ maxLen) : ∀ x ∈ xs ++ ys, x.size ≤ maxLen := fun x hx => by
  rcases List.mem_append.1 hx with hm | hm
  · exact h x hm
  · exact g x hm
theorem fine_mem {xs : List ByteArray} (h : Fine xs) : ∀ x ∈ xs, x.size ≤ maxLen := fun x hx => by
  obtain ⟨i, hi, rfl⟩ := List.getElem_of_mem hx
  exact h.2 i _ (List.getElem?_eq_getElem hi)
set_option maxHeartbeats 16000000 in
theorem named_any (L : Lay) (w : World) (hL : LayOk w L) (hF : FewL L) : Calls Tryd.prog 11 #[.agg #[.string L.name, .slice L.aS L.secs.length L.cS, .slice L.aE L.els.length L.cE, .slice L.aJ L.jts.length L.cJ, .slice L.aG L.sgs.length L.cG, .slice L.aB L.bals.length L.cB]] w (RetE (fun _ => True) w) := by
  obtain ⟨i0, hi, hz0, hz1, hz2⟩ := info_parts inf_Str
  have HII := Lib.hid hi
  have HL := Lib.hid hL
  have HF := Lib.hid hF
  clear hi hL hF
  go_enter Tryd.func11, Tryd.ntmps11
  go_upto_region 3 with (fail)
  all_goals try (go_ret; exact RetE.mk trivial (eal (Ext.refl _) _))
  go_upto_region 4 with (go_at_call 26; refine (names_any L _ (HL.out.keep (eal (Ext.refl _) _)) HF.out.1 HF.out.2.1 HF.out.2.2.2.1).mono ?_; rintro e w1 ⟨A0, c0, x0, A1, c1, x1, A2, c2, x2, rfl, hr0, hr1, hr2, hf0, hf1, hf2, hb⟩; have HR0 := Lib.hid hr0; have HR1 := Lib.hid hr1; have HR2 := Lib.hid hr2; have HF0 := Lib.hid hf0; have HF1 := Lib.hid hf1; have HF2 := Lib.hid hf2; have HB1 := Lib.hid hb; have HL1 : Hid (LayAt w1 w.heap.size L) := CellsAt.keep (CellsAt.new rfl) hb; clear hr0 hr1 hr2 hf0 hf1 hf2 hb)
  obtain ⟨w2, hw2⟩ : ∃ w2, w2 = w1.alloc (.cells #[.slice A0 x0.length c0, .slice A1 x1.length c1, .slice A2 x2.length c2] 54) := ⟨_, rfl⟩
  rw [← hw2]
  have X2 : Hid (Ext w1 w2) := hw2 ▸ eal (Ext.refl _) _
  have E2 : Hid (Ext w w2) := etr (etr (eal (Ext.refl _) _) HB1.out) X2.out
  have C2 : Hid (CellsAt w2 w1.heap.size [.slice A0 x0.length c0, .slice A1 x1.length c1, .slice A2 x2.length c2]) := hw2 ▸ CellsAt.new rfl
  have L2 : Hid (LayAt w2 w.heap.size L) := HL1.out.keep X2.out
  clear hw2
  have b0 := C2.out.2 0 _ rfl
  have b1 := C2.out.2 1 _ rfl
  have b2 := C2.out.2 2 _ rfl
  have b3 := C2.out.1
  obtain ⟨l0, a0, a1, a2, a3, a4, a5⟩ := layAt_cells L2.out
  refine wp_region_monoB [0, 1, 3, 4, 6, 7, 9, 10, 13] 5 (by kernel_rfl) (by kernel_rfl) (fun _ _ d _ _ h => by cases d <;> exact h) (by kernel_rfl) (by kernel_rfl) ?_
  repeat (refine wpE_step rfl (fun K hK => ?_); go_simp; (refine hK _ ?_; clear hK K))
  refine wpE_nil ?_
  intro x
  refine wpAnyB_ready (rs := [2]) (by kernel_rfl) (by simp) (AllB.cons rfl (fun K hK => ?_) AllB.nil)
  go_simp
  refine hK _ _ (ext_below (eal (Ext.refl _) _) (esz x.is)) (fun z => ?_)
  clear hK K
  have HO : Hid (OwnL z.val w2.heap.size 9 1 Strc (.slice (some ⟨x.val.heap.size, 0, none⟩) 1 1) [L.name]) := OwnL.keep (World.ownsRow_lit x.val #[.string L.name] 1 (esz x.is) (by first | rfl | simp | decide) (by first | rfl | simp [Strc] | decide)) z.is
  have EZ : Hid (Ext w2 z.val) := etr (eal x.is _) z.is
  refine wpAnyB_ready (rs := [5]) (by kernel_rfl) (by simp) (AllB.cons rfl (fun K hK => ?_) AllB.nil)
  rw [if_pos (by rfl)]
  refine wp_appO (u := w2) Strc_len Strc_one Tryd.underlying22 HII.out hz0 hz1 hz2 rfl (by decide) rfl rfl HO.out EZ.out x0 A0 c0 rfl (HR0.out.keep (etr X2.out EZ.out)) (by have h0 := HF0.out.1; have h1 := HF1.out.1; have h2 := HF2.out.1; simp; omega) (by have h0 := HF0.out.1; have h1 := HF1.out.1; have h2 := HF2.out.1; unfold maxLen; simp; omega) ?_
  intro v1 w3 H3
  refine hK _ _ (OwnL.app_below (Below.refl _ _) EZ.out.size (fun b hb => (HO.out.lt b hb).1) H3.out.2.2) (fun z3 => ?_)
  clear hK K
  have Oa := Lib.hid (H3.out.1.keep z3.is)
  have Ea : Hid (Ext w2 z3.val) := etr H3.out.2.1 z3.is
  refine wpAnyB_ready (rs := [8]) (by kernel_rfl) (by simp) (AllB.cons rfl (fun K hK => ?_) AllB.nil)
  rw [if_pos (by rfl)]
  refine wp_appO (u := w2) Strc_len Strc_one Tryd.underlying22 HII.out hz0 hz1 hz2 rfl (by decide) rfl rfl Oa.out Ea.out x1 A1 c1 rfl (HR1.out.keep (etr X2.out Ea.out)) (by have h0 := HF0.out.1; have h1 := HF1.out.1; have h2 := HF2.out.1; simp; omega) (by have h0 := HF0.out.1; have h1 := HF1.out.1; have h2 := HF2.out.1; unfold maxLen; simp; omega) ?_
  intro v2 w4 H4
  refine hK _ _ (OwnL.app_below (Below.refl _ _) Ea.out.size (fun b hb => (Oa.out.lt b hb).1) H4.out.2.2) (fun z4 => ?_)
  clear hK K
  have Ob := Lib.hid (H4.out.1.keep z4.is)
  have Eb : Hid (Ext w2 z4.val) := etr H4.out.2.1 z4.is
  refine wpAnyB_ready (rs := [11]) (by kernel_rfl) (by simp) (AllB.cons rfl (fun K hK => ?_) AllB.nil)
  rw [if_pos (by rfl)]
  refine wp_appO (u := w2) Strc_len Strc_one Tryd.underlying22 HII.out hz0 hz1 hz2 rfl (by decide) rfl rfl Ob.out Eb.out x2 A2 c2 rfl (HR2.out.keep (etr X2.out Eb.out)) (by have h0 := HF0.out.1; have h1 := HF1.out.1; have h2 := HF2.out.1; simp; omega) (by have h0 := HF0.out.1; have h1 := HF1.out.1; have h2 := HF2.out.1; unfold maxLen; simp; omega) ?_
  intro v3 w5 H5
  refine hK _ _ (OwnL.app_below (Below.refl _ _) Eb.out.size (fun b hb => (Ob.out.lt b hb).1) H5.out.2.2) (fun z5 => ?_)
  clear hK K
  have Oc := Lib.hid (H5.out.1.keep z5.is)
  have Ec : Hid (Ext w2 z5.val) := etr H5.out.2.1 z5.is
  obtain ⟨ys, hys⟩ : ∃ ys, ys = [L.name] ++ x0 ++ x1 ++ x2 := ⟨_, rfl⟩
  have HFY : Hid (ys.length ≤ 400 ∧ ∀ x ∈ ys, x.size ≤ maxLen) := by
    rw [hys]
    refine ⟨by have h0 := HF0.out.1; have h1 := HF1.out.1; have h2 := HF2.out.1; simp; omega, fine_app (fine_app (fine_app (fun x hx => by simp at hx; subst hx; exact HL.out.hN) (fine_mem HF0.out)) (fine_mem HF1.out)) (fine_mem HF2.out)⟩
  have hO := Oc.out
  rw [← hys] at hO
  obtain ⟨A3, c3, rfl, hr3, hm3⟩ := hO.rd Strc_len
  have HR3 := Lib.hid hr3
  clear hr3 hm3 hO hys
  refine wpAnyB_ready (rs := [12]) (by kernel_rfl) (by simp) (AllB.cons rfl (fun K hK => ?_) AllB.nil)
  go_simp
  refine hK _ _ (Below.refl _ _) (fun z6 => ?_)
  clear hK K
  refine wpAnyB_done (by kernel_rfl) ?_ _
  obtain ⟨w6, hw6⟩ : ∃ w6, w6 = z6.val := ⟨_, rfl⟩
  have X6 : Hid (Ext w2 w6) := hw6 ▸ etr Ec.out z6.is
  have R6 : Hid (Rd w6 A3 1 Strc ys) := hw6 ▸ HR3.out.keep z6.is
  rw [← hw6]
  clear hw6 b0 b1 b2 b3 l0 a0 a1 a2 a3 a4 a5
  have hyl : ys.length ≤ 400 := HFY.out.1
  go_wp2
  go_loopg [55] ys.length (fun g ix wr => ∃ k : Nat, ix = .int .i64 k ∧ k ≤ ys.length ∧ g = ys.length - k ∧ Hid (Ext w6 wr))
  case atStart => exact ⟨0, rfl, by omega, by omega, Ext.refl _⟩
  case round =>
    obtain ⟨k, rfl, hk, hg, H⟩ := hrel
    have HG := Lib.hid hg
    clear hg
    by_cases hlt : k < ys.length
    · obtain ⟨b, off, s, rfl, hs, hbs, d0, d1⟩ := rd_tx R6.out H.out hlt
      have HSS : Hid (s.size ≤ maxLen) := HFY.out.2 s (List.mem_of_getElem? hs)
      clear hs
      go_wp2_with (go_at_call 27; refine (name_any s _ HSS.out).mono ?_; rintro e w7 ⟨bb, rfl, _, hb7⟩; have H7 := Lib.hid hb7; clear hb7)
      all_goals first | (go_ret; exact RetE.mk trivial (etr (etr (etr E2.out X6.out) H.out) H7.out)) | (go_roundg (ys.length - (k + 1)))
      all_goals first | (have := HG.out; omega) | exact ⟨k + 1, by go_num, by omega, rfl, etr H.out H7.out⟩
    · have b0 := (C2.out.keep (etr X6.out H.out)).2 0 _ rfl
      have b1 := (C2.out.keep (etr X6.out H.out)).2 1 _ rfl
      have b2 := (C2.out.keep (etr X6.out H.out)).2 2 _ rfl
      have b3 := (C2.out.keep (etr X6.out H.out)).1
      have ZZ : Hid (Ext w2 wr) := etr X6.out H.out
      have HFF : Hid (x0.length ≤ maxLen ∧ x1.length ≤ maxLen ∧ x2.length ≤ maxLen) := by
        have h0 := HF0.out.1; have h1 := HF1.out.1; have h2 := HF2.out.1
        unfold maxLen; exact ⟨by omega, by omega, by omega⟩
      go_wp2_with (go_at_call 28; refine (texts_any _ _ _ _ ?_ ?_).mono ?_; (first | exact HFF.out.1 | exact HFF.out.2.1 | exact HFF.out.2.2); (first | exact HR0.out.keep (etr X2.out ZZ.out) | exact HR1.out.keep (etr X2.out ZZ.out) | exact HR2.out.keep (etr X2.out ZZ.out)); rintro e w7 ⟨bb, rfl, _, hb7⟩; have ZZ : Hid (Ext w2 w7) := etr ZZ.out hb7; have b0 := (C2.out.keep ZZ.out).2 0 _ rfl; have b1 := (C2.out.keep ZZ.out).2 1 _ rfl; have b2 := (C2.out.keep ZZ.out).2 2 _ rfl; have b3 := (C2.out.keep ZZ.out).1; clear hb7)
      all_goals go_ret
      all_goals exact RetE.mk trivial (etr E2.out ZZ.out)
end Go.Proofs.YtoodehilgogomaaDoor
