/- A region that draws its order: a head whose operations only extend the world, in whatever order; behind it a tail whose order is forced. -/
import Derived.Test.YticonpjkcocgeaaDoorKAll
import Derived.StillTail
set_option linter.unusedVariables false
namespace Go.Proofs.YticonpjkcocgeaaDoor
open Go.ChangeShapes Go.WideShapes Go.ChangeAt Go.RowKit

section
variable {P : Program} {ops : Array Oper} {md : Region.Mode} {Q : Exit → Act → World → Prop}
def headR (P : Program) (md : Region.Mode) (ops : Array Oper) (Q : Exit → Act → World → Prop) (n : Nat) (L : Array Bool → Act → World → Prop) : Nat → Array Bool → Act → World → Prop
  | 0, listed, a, w => L listed a w
  | f + 1, listed, a, w => Region.ready md ops listed ≠ [] ∧ ∀ i ∈ Region.ready md ops listed, i < n ∧ wpOp P ops Q i (fun a' w' => Ext w w' ∧ ∀ w2, Ext w' w2 → headR P md ops Q n L f (listed.setIfInBounds i true) a' w2) a w
theorem headR_any {n g : Nat} {L : Array Bool → Act → World → Prop} (hL : ∀ listed a w, L listed a w → wpAny P md ops Q g listed a w) :
    ∀ (f : Nat) (listed : Array Bool) (a : Act) (w : World), headR P md ops Q n L f listed a w → wpAny P md ops Q (f + g) listed a w
  | 0, listed, a, w, h => by rw [Nat.zero_add]; exact hL _ _ _ h
  | f + 1, listed, a, w, h => by
    rw [show f + 1 + g = (f + g) + 1 by omega]
    exact ⟨fun h0 => absurd h0 h.1, fun i hi => wpOp_mono (fun a' w' h' => headR_any hL f _ a' w' (h'.2 _ (Ext.refl _))) (h.2 i hi).2⟩
theorem headR_first {n i : Nat} {oi : Oper} {v : Value} {L : Array Bool → Act → World → Prop} (hi : ops[i]? = some oi) (hsel : ∀ (j : Nat) (o : Oper) cs b, ops[j]? = some o → o.op ≠ .select cs b) (hQ : ∀ c a w, Q (.panic c) (a.put oi.dst v) w → Q (.panic c) a w)
    (hs : Region.sinkB md ops n = true) (hc : Region.chainB md ops n = true) (hn : n < ops.size) (hin : i < n) (hdone : ∀ listed a w, L listed a w → ∀ j ∈ Region.ready md ops listed, n ≤ j) :
    ∀ (f : Nat) (listed : Array Bool) (a : Act) (w0 : World), HeadInv md ops n listed →
      (∀ j oj, ops[j]? = some oj → j ≠ i → listed.getD j true = false → (∀ e ∈ oj.after, Region.binds md e = true → e.on ≠ i) → oi.apart ops oj = true) →
      i ∈ Region.ready md ops listed → YieldsE P ops w0 oi v a → (∀ w2, Ext w0 w2 → headR P md ops Q n L f (listed.setIfInBounds i true) (a.put oi.dst v) w2) →
      ∀ w, Ext w0 w → headR P md ops Q n L (f + 1) listed a w := by
  intro f
  induction f with
  | zero =>
    intro listed a w0 inv _ hr hy H w hw
    have hun := (mem_ready.1 hr).1
    refine ⟨fun h => (by rw [h] at hr; cases hr), fun j hj => ?_⟩
    have hjn : j < n := Nat.lt_of_not_le fun h => tail_waits hs hc hn inv _ i rfl hin hun j h hj
    refine ⟨hjn, ?_⟩
    by_cases hji : j = i
    · subst hji; exact hy.wpOp hi hw fun w' hw' => ⟨hw', fun w2 h2 => H w2 (Ext.trans (Ext.trans hw hw') h2)⟩
    · have := hdone _ _ _ (H w hw) j (ready_mono hj hji)
      omega
  | succ f ih =>
    intro listed a w0 inv hfree hr hy H w hw
    have hun := (mem_ready.1 hr).1
    refine ⟨fun h => (by rw [h] at hr; cases hr), fun j hj => ?_⟩
    have hjn : j < n := Nat.lt_of_not_le fun h => tail_waits hs hc hn inv _ i rfl hin hun j h hj
    refine ⟨hjn, ?_⟩
    by_cases hji : j = i
    · subst hji; exact hy.wpOp hi hw fun w' hw' => ⟨hw', fun w2 h2 => H w2 (Ext.trans (Ext.trans hw hw') h2)⟩
    · have h1 := ((H w hw).2 j (ready_mono hj hji)).2
      obtain ⟨hjun, oj, hoj, hall⟩ := mem_ready.1 hj
      have hnot : ∀ e ∈ oj.after, Region.binds md e = true → e.on ≠ i := fun e he hb heq => by
        have h1 := hall e he hb
        rw [heq, getD_both hun] at h1
        cases h1
      have h2 := wpOp_putE hoj (hfree j oj hoj hji hjun hnot) (fun cs b => hsel i oi cs b hi) (fun cs b => hsel j oj cs b hoj) hQ hy h1
      have hfree' : ∀ k ok, ops[k]? = some ok → k ≠ i → (listed.setIfInBounds j true).getD k true = false →
          (∀ e ∈ ok.after, Region.binds md e = true → e.on ≠ i) → oi.apart ops ok = true := fun k ok hk hki hun hno => by
        refine hfree k ok hk hki ?_ hno
        by_cases hjk : j = k
        · subst hjk; exact hjun
        · rw [getD_set_ne true hjk] at hun; exact hun
      refine wpOp_mono (fun a' w' h3 => ⟨h3.2.1, ih (listed.setIfInBounds j true) a' w' (inv.set hj hjn) hfree' (ready_mono hr (Ne.symm hji)) (h3.1.later (Ext.trans hw h3.2.1)) (fun w2 h4 => ?_)⟩) h2
      rw [Array.setIfInBounds_comm _ _ hji]
      exact h3.2.2 w2 h4
def takeH (md : Region.Mode) (ops : Array Oper) (n : Nat) : List Nat → Array Bool → Bool
  | [], _ => true
  | i :: r, listed => decide (i < n) && ((Region.ready md ops listed).contains i && Region.free md ops listed i && takeH md ops n r (listed.setIfInBounds i true))
theorem headR_takes {n : Nat} {L : Array Bool → Act → World → Prop} (hsel : Region.noSelect ops = true) (hQ : ∀ c a (d : Option Nat) v w, Q (.panic c) (a.put d v) w → Q (.panic c) a w)
    (hs : Region.sinkB md ops n = true) (hc : Region.chainB md ops n = true) (hn : n < ops.size) (hdone : ∀ listed a w, L listed a w → ∀ j ∈ Region.ready md ops listed, n ≤ j) :
    ∀ (l : List Nat) (f : Nat) (listed : Array Bool) (a : Act) (w0 : World), HeadInv md ops n listed → takeH md ops n l listed = true →
      wpE P ops w0 (fun a' => ∀ x : After w0, headR P md ops Q n L f (listAll l listed) a' x.val) l a → ∀ w, Ext w0 w → headR P md ops Q n L (l.length + f) listed a w
  | [], f, listed, a, w0, inv, _, h, w, hw => by
    have := h ⟨w, hw⟩
    simpa [listAll] using this
  | i :: l, f, listed, a, w0, inv, hB, h, w, hw => by
    simp only [takeH, Bool.and_eq_true, decide_eq_true_eq] at hB
    obtain ⟨hin, ⟨hr, hf⟩, hB'⟩ := hB
    rw [List.length_cons, show l.length + 1 + f = (l.length + f) + 1 by omega]
    have hr' : i ∈ Region.ready md ops listed := by simpa using hr
    obtain ⟨_, o, ho, _⟩ := mem_ready.1 hr'
    unfold wpE at h
    rw [ho] at h
    by_cases hw' : Region.wanted o (yielded ops a.tmps) = true
    · simp only [hw', if_true] at h
      obtain ⟨v, hv, hk⟩ := h
      exact headR_first ho (Region.noSelect_spec hsel) (fun c a w => hQ c a o.dst v w) hs hc hn hin hdone (l.length + f) listed a w0 inv (Region.free_spec ho hf) hr' (.inl ⟨hw', hv⟩)
        (fun w2 h2 => headR_takes hsel hQ hs hc hn hdone l f _ _ w0 (inv.set hr' hin) hB' hk w2 h2) w hw
    · simp only [hw'] at h
      exact headR_first ho (Region.noSelect_spec hsel) (fun c a w => hQ c a o.dst undef w) hs hc hn hin hdone (l.length + f) listed a w0 inv (Region.free_spec ho hf) hr' (.inr ⟨by simpa using hw', rfl⟩)
        (fun w2 h2 => headR_takes hsel hQ hs hc hn hdone l f _ _ w0 (inv.set hr' hin) hB' h w2 h2) w hw
/-- What stands behind the head: the rest in the order of the text. -/
def tailL (P : Program) (ops : Array Oper) (Q : Exit → Act → World → Prop) (n : Nat) (rest : List Oper) : Array Bool → Act → World → Prop := fun listed a w => Region.seqB .any ops (ops.size - n) n listed = true ∧ wpList P ops Q rest a w
theorem tail_done {n : Nat} {rest : List Oper} : ∀ listed a w, tailL P ops Q n rest listed a w → ∀ j ∈ Region.ready .any ops listed, n ≤ j := fun listed a w h => seqB_ready h.1
theorem headR_tail {n : Nat} {rest : List Oper} {listed : Array Bool} {a : Act} {w : World} (hB : Region.seqB .any ops (ops.size - n) n listed = true) (h : wpList P ops Q rest a w) : headR P .any ops Q n (tailL P ops Q n rest) 0 listed a w := ⟨hB, h⟩
/-- Each of those that may come up next, one after the other. -/
def AllH (P : Program) (ops : Array Oper) (Q : Exit → Act → World → Prop) (n : Nat) (rest : List Oper) (f : Nat) (listed : Array Bool) (a : Act) (w : World) (rs : List Nat) : Prop :=
  ∀ i ∈ rs, i < n ∧ wpOp P ops Q i (fun a' w' => Ext w w' ∧ ∀ w2, Ext w' w2 → headR P .any ops Q n (tailL P ops Q n rest) f (listed.setIfInBounds i true) a' w2) a w
theorem AllH.nil {n : Nat} {rest : List Oper} {f : Nat} {listed : Array Bool} {a : Act} {w : World} : AllH P ops Q n rest f listed a w [] := fun _ h => by cases h
theorem AllH.cons {n : Nat} {rest : List Oper} {f : Nat} {listed : Array Bool} {a : Act} {w : World} {i : Nat} {o : Oper} {rs : List Nat} (hin : i < n) (ho : ops[i]? = some o)
    (h : ∀ K' : Act → World → Prop, (∀ a w', Ext w w' → (∀ x : After w', headR P .any ops Q n (tailL P ops Q n rest) f (listed.setIfInBounds i true) a x.val) → K' a w') → if Region.wanted o (yielded ops a.tmps) = true then Oper.wp P o a w K' Q else K' (a.put o.dst undef) w)
    (hs : AllH P ops Q n rest f listed a w rs) : AllH P ops Q n rest f listed a w (i :: rs) := fun j hj => by
  rcases List.mem_cons.1 hj with rfl | hj
  · exact ⟨hin, wpOp_step ho (fun K' hK' => h K' (fun a w' h1 h2 => hK' a w' ⟨h1, fun w2 h3 => h2 ⟨w2, h3⟩⟩))⟩
  · exact hs j hj
theorem headR_ready {n : Nat} {rest : List Oper} {rs : List Nat} {f : Nat} {listed : Array Bool} {a : Act} {w : World} (hr : Region.ready .any ops listed = rs) (hne : rs ≠ []) (h : AllH P ops Q n rest f listed a w rs) : headR P .any ops Q n (tailL P ops Q n rest) (f + 1) listed a w :=
  ⟨fun h0 => absurd (hr ▸ h0) hne, by rw [hr]; exact h⟩
/-- The beginning: of the first n operations the quiet ones l first, then what is left of them (m) in whatever order; then the rest. -/
theorem wp_region_head {id : Nat} {a : Act} {w : World} {L : List Oper} (n : Nat) (l : List Nat) (m : Nat) (hm : P.follows .mixedOrders = true) (hsel : Region.noSelect L.toArray = true) (hQ : ∀ c a (d : Option Nat) v w, Q (.panic c) (a.put d v) w → Q (.panic c) a w)
    (hs : Region.sinkB .any L.toArray n = true) (hc : Region.chainB .any L.toArray n = true) (hn : n < L.toArray.size)
    (hB : takeH .any L.toArray n l (Array.replicate L.length false) = true) (hlm : l.length + m = n)
    (h : wpE P L.toArray w (fun a' => ∀ x : After w, headR P .any L.toArray Q n (tailL P L.toArray Q n (L.drop n)) m (listAll l (Array.replicate L.length false)) a' x.val) l a) : (Code.region id L.toArray true).wp P Q a w := by
  refine wp_region_any hm ?_
  have inv0 : HeadInv .any L.toArray n (Array.replicate L.length false) :=
    ⟨by simp, fun j oj _ hl => (by rw [getD_replicate_false] at hl; cases hl), fun t _ ht => getD_in (by simpa using ht) (getD_replicate_false _ _)⟩
  have H := headR_takes hsel hQ hs hc hn tail_done l m (Array.replicate L.length false) a w inv0 hB h { w with drawn := w.drawn + 1 } ((Below.refl _ _).drew)
  have := headR_any (g := L.toArray.size - n) (fun listed a' w' hL => by
    have := wpAny_of_seq (md := .any) (Q' := Q) (L.drop n) n listed a' w' (fun j => by simp [List.getElem?_drop]) (by rw [show (L.drop n).length = L.toArray.size - n by simp]; exact hL.1) hL.2
    rwa [show (L.drop n).length = L.toArray.size - n by simp] at this) _ _ _ _ H
  rw [hlm, show n + (L.toArray.size - n) = L.toArray.size by omega] at this
  simpa using this
end
end Go.Proofs.YticonpjkcocgeaaDoor
