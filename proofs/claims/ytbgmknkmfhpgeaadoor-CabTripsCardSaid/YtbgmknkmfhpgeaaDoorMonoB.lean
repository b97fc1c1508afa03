/- A region that draws its order, whose operations may also write what was allocated within it: each step leaves what lay there at the region's beginning. -/
import Derived.Test.YtbgmknkmfhpgeaaDoorMono
set_option linter.unusedVariables false
namespace Go.Proofs.YtbgmknkmfhpgeaaDoor
open Go.ChangeShapes Go.WideShapes Go.ChangeAt Go.RowKit

section
variable {P : Program} {ops : Array Oper} {md : Region.Mode} {Q : Exit → Act → World → Prop} {B : Nat}
def wpAnyB (P : Program) (md : Region.Mode) (ops : Array Oper) (Q : Exit → Act → World → Prop) (B : Nat) : Nat → Array Bool → Act → World → Prop
  | 0, listed, a, w => Region.ready md ops listed = [] ∧ Q .normal a w
  | fuel + 1, listed, a, w => (Region.ready md ops listed = [] → Q .normal a w) ∧
    ∀ i ∈ Region.ready md ops listed, wpOp P ops Q i (fun a' w' => Below B w w' ∧ ∀ w2, Ext w' w2 → wpAnyB P md ops Q B fuel (listed.setIfInBounds i true) a' w2) a w
theorem wpAny_of_B : ∀ (fuel : Nat) (listed : Array Bool) (a : Act) (w : World), wpAnyB P md ops Q B fuel listed a w → wpAny P md ops Q fuel listed a w
  | 0, _, _, _, h => h
  | fuel + 1, _, _, _, h => ⟨h.1, fun i hi => wpOp_mono (fun a' w' h' => wpAny_of_B fuel _ a' w' (h'.2 _ (Ext.refl _))) (h.2 i hi)⟩
theorem below_ext {w0 w w' : World} (h : Ext w0 w) (g : Below w0.heap.size w w') : Ext w0 w' := Below.trans h g
theorem ext_below {w w' : World} (h : Ext w w') (hb : B ≤ w.heap.size) : Below B w w' := Below.mono h hb
theorem wpAnyB_first {i : Nat} {oi : Oper} {v : Value} (hi : ops[i]? = some oi) (hsel : ∀ (j : Nat) (o : Oper) cs b, ops[j]? = some o → o.op ≠ .select cs b) (hQ : ∀ c a w, Q (.panic c) (a.put oi.dst v) w → Q (.panic c) a w) (w0 : World) :
    ∀ (fuel : Nat) (listed : Array Bool) (a : Act) (wb : World), Ext w0 wb →
      (∀ j oj, ops[j]? = some oj → j ≠ i → listed.getD j true = false → (∀ e ∈ oj.after, Region.binds md e = true → e.on ≠ i) → oi.apart ops oj = true) →
      i ∈ Region.ready md ops listed → YieldsE P ops w0 oi v a → (∀ w2, Ext wb w2 → wpAnyB P md ops Q w0.heap.size fuel (listed.setIfInBounds i true) (a.put oi.dst v) w2) →
      ∀ w, Ext wb w → wpAnyB P md ops Q w0.heap.size (fuel + 1) listed a w := by
  intro fuel
  induction fuel with
  | zero =>
    intro listed a wb hwb _ hr hy H w hw
    refine ⟨fun h => (by rw [h] at hr; cases hr), fun j hj => ?_⟩
    by_cases hji : j = i
    · subst hji; exact hy.wpOp hi (Ext.trans hwb hw) fun w' hw' => ⟨ext_below hw' (Ext.trans hwb hw).size, fun w2 h2 => H w2 (Ext.trans (Ext.trans hw hw') h2)⟩
    · have := ready_mono hj hji
      rw [(H w hw).1] at this
      cases this
  | succ fuel ih =>
    intro listed a wb hwb hfree hr hy H w hw
    refine ⟨fun h => (by rw [h] at hr; cases hr), fun j hj => ?_⟩
    by_cases hji : j = i
    · subst hji; exact hy.wpOp hi (Ext.trans hwb hw) fun w' hw' => ⟨ext_below hw' (Ext.trans hwb hw).size, fun w2 h2 => H w2 (Ext.trans (Ext.trans hw hw') h2)⟩
    · have h1 := (H w hw).2 j (ready_mono hj hji)
      obtain ⟨hjun, oj, hoj, hall⟩ := mem_ready.1 hj
      have hnot : ∀ e ∈ oj.after, Region.binds md e = true → e.on ≠ i := fun e he hb heq => by
        have h1 := hall e he hb
        have h0 := (mem_ready.1 hr).1
        rw [heq] at h1
        rcases Nat.lt_or_ge i listed.size with h' | h'
        · simp [h'] at h0 h1; rw [h0] at h1; cases h1
        · simp [Array.getElem?_eq_none h'] at h1
      have h2 := wpOp_putE hoj (hfree j oj hoj hji hjun hnot) (fun cs b => hsel i oi cs b hi) (fun cs b => hsel j oj cs b hoj) hQ hy h1
      have hfree' : ∀ k ok, ops[k]? = some ok → k ≠ i → (listed.setIfInBounds j true).getD k true = false →
          (∀ e ∈ ok.after, Region.binds md e = true → e.on ≠ i) → oi.apart ops ok = true := fun k ok hk hki hun hno => by
        refine hfree k ok hk hki ?_ hno
        by_cases hjk : j = k
        · subst hjk; exact hjun
        · rw [getD_set_ne true hjk] at hun; exact hun
      refine wpOp_mono (fun a' w' h3 => ⟨h3.2.1, ih (listed.setIfInBounds j true) a' w' (below_ext (Ext.trans hwb hw) h3.2.1) hfree' (ready_mono hr (Ne.symm hji)) h3.1 (fun w2 h4 => ?_)⟩) h2
      rw [Array.setIfInBounds_comm _ _ hji]
      exact h3.2.2 w2 h4
theorem wpAnyB_takes (hs : Region.noSelect ops = true) (hQ : ∀ c a (d : Option Nat) v w, Q (.panic c) (a.put d v) w → Q (.panic c) a w) (w0 : World) :
    ∀ (l : List Nat) (fuel : Nat) (listed : Array Bool) (a : Act), takeB md ops l listed = true →
      wpE P ops w0 (fun a' => ∀ x : After w0, wpAnyB P md ops Q w0.heap.size fuel (listAll l listed) a' x.val) l a → ∀ w, Ext w0 w → wpAnyB P md ops Q w0.heap.size (l.length + fuel) listed a w
  | [], fuel, listed, a, _, h, w, hw => by
    have := h ⟨w, hw⟩
    simpa [listAll] using this
  | i :: l, fuel, listed, a, hB, h, w, hw => by
    simp only [takeB, Bool.and_eq_true] at hB
    obtain ⟨⟨hr, hf⟩, hB'⟩ := hB
    rw [List.length_cons, show l.length + 1 + fuel = (l.length + fuel) + 1 by omega]
    have hr' : i ∈ Region.ready md ops listed := by simpa using hr
    obtain ⟨_, o, ho, _⟩ := mem_ready.1 hr'
    unfold wpE at h
    rw [ho] at h
    by_cases hw' : Region.wanted o (yielded ops a.tmps) = true
    · simp only [hw', if_true] at h
      obtain ⟨v, hv, hk⟩ := h
      exact wpAnyB_first ho (Region.noSelect_spec hs) (fun c a w => hQ c a o.dst v w) w0 (l.length + fuel) listed a w0 (Ext.refl _) (Region.free_spec ho hf) hr' (.inl ⟨hw', hv⟩)
        (fun w2 h2 => wpAnyB_takes hs hQ w0 l fuel _ _ hB' hk w2 h2) w hw
    · simp only [hw'] at h
      exact wpAnyB_first ho (Region.noSelect_spec hs) (fun c a w => hQ c a o.dst undef w) w0 (l.length + fuel) listed a w0 (Ext.refl _) (Region.free_spec ho hf) hr' (.inr ⟨by simpa using hw', rfl⟩)
        (fun w2 h2 => wpAnyB_takes hs hQ w0 l fuel _ _ hB' h w2 h2) w hw
theorem wpAnyB_done {listed : Array Bool} {a : Act} {w : World} (hr : Region.ready md ops listed = []) (h : Q .normal a w) : ∀ fuel, wpAnyB P md ops Q B fuel listed a w
  | 0 => ⟨hr, h⟩
  | _ + 1 => ⟨fun _ => h, by rw [hr]; simp⟩
/-- Each of those that may come up next, one after the other. -/
def AllB (P : Program) (md : Region.Mode) (ops : Array Oper) (Q : Exit → Act → World → Prop) (B : Nat) (fuel : Nat) (listed : Array Bool) (a : Act) (w : World) (rs : List Nat) : Prop :=
  ∀ i ∈ rs, wpOp P ops Q i (fun a' w' => Below B w w' ∧ ∀ w2, Ext w' w2 → wpAnyB P md ops Q B fuel (listed.setIfInBounds i true) a' w2) a w
theorem AllB.nil {fuel : Nat} {listed : Array Bool} {a : Act} {w : World} : AllB P md ops Q B fuel listed a w [] := fun _ h => by cases h
theorem AllB.cons {fuel : Nat} {listed : Array Bool} {a : Act} {w : World} {i : Nat} {o : Oper} {rs : List Nat} (ho : ops[i]? = some o)
    (h : ∀ K' : Act → World → Prop, (∀ a w', Below B w w' → (∀ x : After w', wpAnyB P md ops Q B fuel (listed.setIfInBounds i true) a x.val) → K' a w') → if Region.wanted o (yielded ops a.tmps) = true then Oper.wp P o a w K' Q else K' (a.put o.dst undef) w)
    (hs : AllB P md ops Q B fuel listed a w rs) : AllB P md ops Q B fuel listed a w (i :: rs) := fun j hj => by
  rcases List.mem_cons.1 hj with rfl | hj
  · exact wpOp_step ho (fun K' hK' => h K' (fun a w' h1 h2 => hK' a w' ⟨h1, fun w2 h3 => h2 ⟨w2, h3⟩⟩))
  · exact hs j hj
theorem wpAnyB_ready {rs : List Nat} {fuel : Nat} {listed : Array Bool} {a : Act} {w : World} (hr : Region.ready md ops listed = rs) (hne : rs ≠ []) (h : AllB P md ops Q B fuel listed a w rs) : wpAnyB P md ops Q B (fuel + 1) listed a w :=
  ⟨fun h0 => absurd (hr ▸ h0) hne, by rw [hr]; exact h⟩
/-- The beginning: the quiet operations l first, then what is left in whatever order. -/
theorem wp_region_monoB {id : Nat} {a : Act} {w : World} {L : List Oper} (l : List Nat) (n : Nat) (hm : P.follows .mixedOrders = true) (hs : Region.noSelect L.toArray = true) (hQ : ∀ c a (d : Option Nat) v w, Q (.panic c) (a.put d v) w → Q (.panic c) a w)
    (hB : takeB .any L.toArray l (Array.replicate L.length false) = true) (hn : l.length + n = L.length)
    (h : wpE P L.toArray w (fun a' => ∀ x : After w, wpAnyB P .any L.toArray Q w.heap.size n (listAll l (Array.replicate L.length false)) a' x.val) l a) : (Code.region id L.toArray true).wp P Q a w := by
  refine wp_region_any hm ?_
  refine wpAny_of_B (B := w.heap.size) _ _ _ _ ?_
  have := wpAnyB_takes hs hQ w l n (Array.replicate L.length false) a hB h { w with drawn := w.drawn + 1 } ((Below.refl _ _).drew)
  rw [hn] at this
  simpa using this
end
end Go.Proofs.YtbgmknkmfhpgeaaDoor
