/- A region that draws its order and all of whose operations only extend the world: what yields one value in every later world is taken first; the others are branched over. -/
import Derived.Test.YtbgmknkmfhpgeaaDoorAfter
import Derived.OrdersHeld
import Derived.RegionTactic
set_option linter.unusedVariables false
namespace Go.Proofs.YtbgmknkmfhpgeaaDoor
open Go.ChangeShapes Go.WideShapes Go.ChangeAt Go.RowKit

abbrev Ext (w w' : World) : Prop := Below w.heap.size w w'
theorem Ext.refl (w : World) : Ext w w := Below.refl _ _
theorem Ext.trans {u v w : World} (h : Ext u v) (g : Ext v w) : Ext u w := Below.trans h (Below.mono g h.size)
section
variable {P : Program} {ops : Array Oper} {md : Region.Mode} {Q : Exit → Act → World → Prop}
/-- In state a, in every world that extends w0, the operation yields v and extends the world. -/
def YieldsE (P : Program) (ops : Array Oper) (w0 : World) (o : Oper) (v : Value) (a : Act) : Prop :=
  (Region.wanted o (yielded ops a.tmps) = true ∧ ∀ x : After w0, o.quietAt P a (Ext x.val) x.val v) ∨ (Region.wanted o (yielded ops a.tmps) = false ∧ v = undef)
theorem YieldsE.of_same {w0 : World} {o : Oper} {v : Value} {a a' : Act} (hy : YieldsE P ops w0 o v a) (he : execOp a'.eval o = execOp a.eval o)
    (hw : Region.wanted o (yielded ops a'.tmps) = Region.wanted o (yielded ops a.tmps)) : YieldsE P ops w0 o v a' := by
  unfold YieldsE Oper.quietAt at *
  rw [he, hw]
  exact hy
theorem YieldsE.later {w0 w1 : World} {o : Oper} {v : Value} {a : Act} (hy : YieldsE P ops w0 o v a) (h : Ext w0 w1) : YieldsE P ops w1 o v a :=
  hy.imp (fun ⟨h1, h2⟩ => ⟨h1, fun x => h2 ⟨x.val, Ext.trans h x.is⟩⟩) id
theorem YieldsE.wpOp {w0 w : World} {i : Nat} {o : Oper} {v : Value} {a : Act} (hi : ops[i]? = some o) (hy : YieldsE P ops w0 o v a) {K : Act → World → Prop} (hw : Ext w0 w) (h : ∀ w', Ext w w' → K (a.put o.dst v) w') : wpOp P ops Q i K a w := by
  unfold Go.wpOp
  simp only [hi]
  rcases hy with ⟨hwt, hv⟩ | ⟨hwt, rfl⟩
  · simp only [hwt, if_true]
    refine .inl ?_
    have h3 := hv ⟨w, hw⟩
    unfold Oper.quietAt at h3
    unfold Oper.wp
    simp only at h3
    generalize (execOp a.eval o).run P w = r at *
    cases r with
    | ok n w' =>
      cases n <;> simp only [Oper.quietUpon] at h3 <;> simp only [Oper.upon]
      case value u =>
        obtain ⟨e1, e2⟩ := h3
        rw [e1, e2]
        exact h _ (Ext.refl _)
      case skip =>
        obtain ⟨e1, e2⟩ := h3
        rw [e1, ← e2]
        exact h _ (Ext.refl _)
      case enter f args =>
        obtain ⟨e1, hc⟩ := h3
        rw [e1]
        exact hc.mono fun e w'' ⟨he, hw''⟩ => by subst he; exact h _ hw''
    | halt x w' => simp only [Oper.quietUpon] at h3
  · simp only [hwt, Bool.false_eq_true, if_false]; exact h _ (Ext.refl _)
theorem wpOp_putE {w0 : World} {j : Nat} {oi oj : Oper} {v : Value} (hj : ops[j]? = some oj) (hap : oi.apart ops oj = true)
    (hsi : ∀ cs b, oi.op ≠ .select cs b) (hsj : ∀ cs b, oj.op ≠ .select cs b) (hQ : ∀ c a w, Q (.panic c) (a.put oi.dst v) w → Q (.panic c) a w) {K : Act → World → Prop} {a : Act} {w : World}
    (hy : YieldsE P ops w0 oi v a) (h : wpOp P ops Q j K (a.put oi.dst v) w) : wpOp P ops Q j (fun a' w' => YieldsE P ops w0 oi v a' ∧ K (a'.put oi.dst v) w') a w := by
  obtain ⟨h1, h2, h3⟩ := Oper.apart_spec hap
  have keep : ∀ (a : Act), YieldsE P ops w0 oi v a → ∀ u, YieldsE P ops w0 oi v (a.put oj.dst u) := fun a hy u => hy.of_same (execOp_put oi hsi a oj.dst u h3) (wanted_put oi a oj.dst u h3)
  have keepD : ∀ d, YieldsE P ops w0 oi v { a with defers := d :: a.defers } := fun d => hy.of_same rfl rfl
  unfold wpOp at *
  simp only [hj] at *
  rw [wanted_put oj a oi.dst v h1] at h
  split
  · rename_i hw
    simp only [hw, if_true] at h
    rcases h with h | ⟨hasks, hlets⟩
    case inr => exact .inr ⟨by unfold Oper.asks at *; rw [execOp_put oj hsj a oi.dst v h1] at hasks; exact hasks, hlets⟩
    refine .inl ?_
    unfold Oper.wp at *
    rw [execOp_put oj hsj a oi.dst v h1] at h
    generalize (execOp a.eval oj).run P w = r at *
    cases r with
    | ok n w' =>
      cases n <;> simp only [Oper.upon] at h ⊢
      case value u => exact ⟨keep a hy u, by rw [← Act.put_comm a v u h2]; exact h⟩
      case skip => exact ⟨keep a hy _, by rw [← Act.put_comm a v undef h2]; exact h⟩
      case defer d =>
        refine ⟨keep _ (keepD d) _, ?_⟩
        rw [← Act.put_comm _ v undef h2, ← Act.put_defers]
        exact h
      case enter f args =>
        refine Calls.mono h fun e w'' he => ?_
        cases e with
        | returned u => exact ⟨keep a hy u, by rw [← Act.put_comm a v u h2]; exact he⟩
        | panicked c => exact hQ _ _ _ he
        | outgrown => exact he
      case row row args => exact Rows.mono h fun u w'' he => ⟨keep a hy u, by rw [← Act.put_comm a v u h2]; exact he⟩
    | halt x w' =>
      cases x <;> simp only [Oper.upon] at h ⊢
      case panic u => exact hQ _ _ _ h
  · rename_i hw
    simp only [hw] at h
    exact ⟨keep a hy _, by rw [← Act.put_comm a v undef h2]; exact h⟩
/-- Whatever order is picked; each operation extends the world, and what follows holds in every later world. -/
def wpAnyR (P : Program) (md : Region.Mode) (ops : Array Oper) (Q : Exit → Act → World → Prop) : Nat → Array Bool → Act → World → Prop
  | 0, listed, a, w => Region.ready md ops listed = [] ∧ Q .normal a w
  | fuel + 1, listed, a, w => (Region.ready md ops listed = [] → Q .normal a w) ∧
    ∀ i ∈ Region.ready md ops listed, wpOp P ops Q i (fun a' w' => Ext w w' ∧ ∀ w2, Ext w' w2 → wpAnyR P md ops Q fuel (listed.setIfInBounds i true) a' w2) a w
theorem wpAny_of_R : ∀ (fuel : Nat) (listed : Array Bool) (a : Act) (w : World), wpAnyR P md ops Q fuel listed a w → wpAny P md ops Q fuel listed a w
  | 0, _, _, _, h => h
  | fuel + 1, _, _, _, h => ⟨h.1, fun i hi => wpOp_mono (fun a' w' h' => wpAny_of_R fuel _ a' w' (h'.2 _ (Ext.refl _))) (h.2 i hi)⟩
theorem wpAnyR_first {i : Nat} {oi : Oper} {v : Value} (hi : ops[i]? = some oi) (hsel : ∀ (j : Nat) (o : Oper) cs b, ops[j]? = some o → o.op ≠ .select cs b) (hQ : ∀ c a w, Q (.panic c) (a.put oi.dst v) w → Q (.panic c) a w) :
    ∀ (fuel : Nat) (listed : Array Bool) (a : Act) (w0 : World),
      (∀ j oj, ops[j]? = some oj → j ≠ i → listed.getD j true = false → (∀ e ∈ oj.after, Region.binds md e = true → e.on ≠ i) → oi.apart ops oj = true) →
      i ∈ Region.ready md ops listed → YieldsE P ops w0 oi v a → (∀ w2, Ext w0 w2 → wpAnyR P md ops Q fuel (listed.setIfInBounds i true) (a.put oi.dst v) w2) →
      ∀ w, Ext w0 w → wpAnyR P md ops Q (fuel + 1) listed a w := by
  intro fuel
  induction fuel with
  | zero =>
    intro listed a w0 _ hr hy H w hw
    refine ⟨fun h => (by rw [h] at hr; cases hr), fun j hj => ?_⟩
    by_cases hji : j = i
    · subst hji; exact hy.wpOp hi hw fun w' hw' => ⟨hw', fun w2 h2 => H w2 (Ext.trans (Ext.trans hw hw') h2)⟩
    · have := ready_mono hj hji
      rw [(H w hw).1] at this
      cases this
  | succ fuel ih =>
    intro listed a w0 hfree hr hy H w hw
    refine ⟨fun h => (by rw [h] at hr; cases hr), fun j hj => ?_⟩
    by_cases hji : j = i
    · subst hji; exact hy.wpOp hi hw fun w' hw' => ⟨hw', fun w2 h2 => H w2 (Ext.trans (Ext.trans hw hw') h2)⟩
    · have h1 := (H w hw).2 j (ready_mono hj hji)
      obtain ⟨hjun, oj, hoj, hall⟩ := mem_ready.1 hj
      have hnot : ∀ e ∈ oj.after, Region.binds md e = true → e.on ≠ i := fun e he hb heq => by
        have h1 := hall e he hb
        have h0 := (mem_ready.1 hr).1
        rw [heq] at h1
        rcases Nat.lt_or_ge i listed.size with h' | h'
        · simp [h'] at h0 h1; rw [h0] at h1; cases h1
        · simp [Array.getElem?_eq_none h'] at h1
      have h2 := wpOp_putE hoj (hfree j oj hoj hji hjun hnot) (fun cs b => hsel i oi cs b hi) (fun cs b => hsel j oj cs b hoj) hQ hy h1
      have hfree' : ∀ k ok, ops[k]? = some ok → k ≠ i → (listed.setIfInBounds j true).getD k true = false →
          (∀ e ∈ ok.after, Region.binds md e = true → e.on ≠ i) → oi.apart ops ok = true := fun k ok hk hki hun hno => by
        refine hfree k ok hk hki ?_ hno
        by_cases hjk : j = k
        · subst hjk; exact hjun
        · rw [getD_set_ne true hjk] at hun; exact hun
      refine wpOp_mono (fun a' w' h3 => ⟨h3.2.1, ih (listed.setIfInBounds j true) a' w' hfree' (ready_mono hr (Ne.symm hji)) (h3.1.later (Ext.trans hw h3.2.1)) (fun w2 h4 => ?_)⟩) h2
      rw [Array.setIfInBounds_comm _ _ hji]
      exact h3.2.2 w2 h4
/-- The walk of chosen quiet operations, in a chosen order (their numbers l). -/
def wpE (P : Program) (ops : Array Oper) (w0 : World) (R : Act → Prop) : List Nat → Act → Prop
  | [], a => R a
  | i :: rest, a => match ops[i]? with
    | none => False
    | some o => if Region.wanted o (yielded ops a.tmps) then ∃ v, (∀ x : After w0, o.quietAt P a (Ext x.val) x.val v) ∧ wpE P ops w0 R rest (a.put o.dst v) else wpE P ops w0 R rest (a.put o.dst undef)
theorem wpE_nil {w0 : World} {R : Act → Prop} {a : Act} (h : R a) : wpE P ops w0 R [] a := h
theorem wpE_step {w0 : World} {R : Act → Prop} {a : Act} {i : Nat} {o : Oper} {rest : List Nat} (ho : ops[i]? = some o)
    (h : ∀ K : Act → Prop, (∀ a, wpE P ops w0 R rest a → K a) → if Region.wanted o (yielded ops a.tmps) then ∃ v, (∀ x : After w0, o.quietAt P a (Ext x.val) x.val v) ∧ K (a.put o.dst v) else K (a.put o.dst undef)) : wpE P ops w0 R (i :: rest) a := by
  unfold wpE
  rw [ho]
  exact h _ (fun _ h => h)
def takeB (md : Region.Mode) (ops : Array Oper) : List Nat → Array Bool → Bool
  | [], _ => true
  | i :: r, listed => (Region.ready md ops listed).contains i && Region.free md ops listed i && takeB md ops r (listed.setIfInBounds i true)
def listAll (l : List Nat) (listed : Array Bool) : Array Bool := l.foldl (fun b i => b.setIfInBounds i true) listed
theorem wpAnyR_takes (hs : Region.noSelect ops = true) (hQ : ∀ c a (d : Option Nat) v w, Q (.panic c) (a.put d v) w → Q (.panic c) a w) :
    ∀ (l : List Nat) (fuel : Nat) (listed : Array Bool) (a : Act) (w0 : World), takeB md ops l listed = true →
      wpE P ops w0 (fun a' => ∀ x : After w0, wpAnyR P md ops Q fuel (listAll l listed) a' x.val) l a → ∀ w, Ext w0 w → wpAnyR P md ops Q (l.length + fuel) listed a w
  | [], fuel, listed, a, w0, _, h, w, hw => by
    have := h ⟨w, hw⟩
    simpa [listAll] using this
  | i :: l, fuel, listed, a, w0, hB, h, w, hw => by
    simp only [takeB, Bool.and_eq_true] at hB
    obtain ⟨⟨hr, hf⟩, hB'⟩ := hB
    rw [List.length_cons, show l.length + 1 + fuel = (l.length + fuel) + 1 by omega]
    have hr' : i ∈ Region.ready md ops listed := by simpa using hr
    obtain ⟨_, o, ho, _⟩ := mem_ready.1 hr'
    unfold wpE at h
    rw [ho] at h
    by_cases hw' : Region.wanted o (yielded ops a.tmps) = true
    · simp only [hw', if_true] at h
      obtain ⟨v, hv, hk⟩ := h
      exact wpAnyR_first ho (Region.noSelect_spec hs) (fun c a w => hQ c a o.dst v w) (l.length + fuel) listed a w0 (Region.free_spec ho hf) hr' (.inl ⟨hw', hv⟩)
        (fun w2 h2 => wpAnyR_takes hs hQ l fuel _ _ w0 hB' hk w2 h2) w hw
    · simp only [hw'] at h
      exact wpAnyR_first ho (Region.noSelect_spec hs) (fun c a w => hQ c a o.dst undef w) (l.length + fuel) listed a w0 (Region.free_spec ho hf) hr' (.inr ⟨by simpa using hw', rfl⟩)
        (fun w2 h2 => wpAnyR_takes hs hQ l fuel _ _ w0 hB' h w2 h2) w hw
/-- The same later in the walk. -/
theorem wpAnyR_more {fuel n : Nat} {listed : Array Bool} {a : Act} {w : World} (l : List Nat) (hs : Region.noSelect ops = true) (hQ : ∀ c a (d : Option Nat) v w, Q (.panic c) (a.put d v) w → Q (.panic c) a w) (hB : takeB md ops l listed = true) (hn : l.length + fuel = n)
    (h : wpE P ops w (fun a' => ∀ x : After w, wpAnyR P md ops Q fuel (listAll l listed) a' x.val) l a) : wpAnyR P md ops Q n listed a w := by
  subst hn
  exact wpAnyR_takes hs hQ l fuel listed a w hB h w (Ext.refl _)
theorem wpAnyR_done {listed : Array Bool} {a : Act} {w : World} (hr : Region.ready md ops listed = []) (h : Q .normal a w) : ∀ fuel, wpAnyR P md ops Q fuel listed a w
  | 0 => ⟨hr, h⟩
  | _ + 1 => ⟨fun _ => h, by rw [hr]; simp⟩
/-- Each of those that may come up next, one after the other. -/
def AllR (P : Program) (md : Region.Mode) (ops : Array Oper) (Q : Exit → Act → World → Prop) (fuel : Nat) (listed : Array Bool) (a : Act) (w : World) (rs : List Nat) : Prop :=
  ∀ i ∈ rs, wpOp P ops Q i (fun a' w' => Ext w w' ∧ ∀ w2, Ext w' w2 → wpAnyR P md ops Q fuel (listed.setIfInBounds i true) a' w2) a w
theorem AllR.nil {fuel : Nat} {listed : Array Bool} {a : Act} {w : World} : AllR P md ops Q fuel listed a w [] := fun _ h => by cases h
theorem AllR.cons {fuel : Nat} {listed : Array Bool} {a : Act} {w : World} {i : Nat} {o : Oper} {rs : List Nat} (ho : ops[i]? = some o)
    (h : ∀ K' : Act → World → Prop, (∀ a w', Ext w w' → (∀ x : After w', wpAnyR P md ops Q fuel (listed.setIfInBounds i true) a x.val) → K' a w') → if Region.wanted o (yielded ops a.tmps) = true then Oper.wp P o a w K' Q else K' (a.put o.dst undef) w)
    (hs : AllR P md ops Q fuel listed a w rs) : AllR P md ops Q fuel listed a w (i :: rs) := fun j hj => by
  rcases List.mem_cons.1 hj with rfl | hj
  · exact wpOp_step ho (fun K' hK' => h K' (fun a w' h1 h2 => hK' a w' ⟨h1, fun w2 h3 => h2 ⟨w2, h3⟩⟩))
  · exact hs j hj
theorem wpAnyR_ready {rs : List Nat} {fuel : Nat} {listed : Array Bool} {a : Act} {w : World} (hr : Region.ready md ops listed = rs) (hne : rs ≠ []) (h : AllR P md ops Q fuel listed a w rs) : wpAnyR P md ops Q (fuel + 1) listed a w :=
  ⟨fun h0 => absurd (hr ▸ h0) hne, by rw [hr]; exact h⟩
/-- The beginning: the quiet operations l first, then what is left in whatever order. -/
theorem wp_region_mono {id : Nat} {a : Act} {w : World} {L : List Oper} (l : List Nat) (n : Nat) (hm : P.follows .mixedOrders = true) (hs : Region.noSelect L.toArray = true) (hQ : ∀ c a (d : Option Nat) v w, Q (.panic c) (a.put d v) w → Q (.panic c) a w)
    (hB : takeB .any L.toArray l (Array.replicate L.length false) = true) (hn : l.length + n = L.length)
    (h : wpE P L.toArray w (fun a' => ∀ x : After w, wpAnyR P .any L.toArray Q n (listAll l (Array.replicate L.length false)) a' x.val) l a) : (Code.region id L.toArray true).wp P Q a w := by
  refine wp_region_any hm ?_
  refine wpAny_of_R _ _ _ _ ?_
  have := wpAnyR_takes hs hQ l n (Array.replicate L.length false) a w hB h { w with drawn := w.drawn + 1 } ((Below.refl _ _).drew)
  rw [hn] at this
  simpa using this
end
end Go.Proofs.YtbgmknkmfhpgeaaDoor
