/- Several texts in one: Kit, After, Tail, Rd, Own, Mono, MonoB, Ext, Open, Flat, Row, RowQ. -/
import Derived.Test.YticonpjkcocgeaaDoorRows
import Derived.WalkKit
import Derived.ProofKit
import Derived.OpenShut
import Derived.Outline
import Derived.Lib.Hide
import Derived.Deep.QuietTactic
import Derived.BigQuiet
import Derived.Laws.AppendOwn
import Derived.Maps.AppendAt
import Derived.OwnWalk
import Derived.StillTail
import Derived.Laws.OwnMore
import Derived.OrdersHeld
import Derived.RegionTactic
import Derived.Laws.Strings
import Derived.ShutString
import Derived.ChangeOld
import Derived.Below
import Derived.Deep.Slices
import Derived.Laws.IdiomCopy
import Derived.Laws.Rows
namespace Go.Proofs.YticonpjkcocgeaaDoor
open Go.ChangeShapes Go.WideShapes Go.ChangeAt Go.RowKit

theorem ret_int {k : IntKind} {a b : Int} (h : a = b) : Ending.returned (.int k a) = .returned (.int k b) := by rw [h]
theorem ret_int2 {k l : IntKind} {a b c d : Int} (h : a = b) (g : c = d) : Ending.returned (.tuple #[.int k a, .int l c]) = .returned (.tuple #[.int k b, .int l d]) := by rw [h, g]
theorem ret_bool {a b : Bool} (h : a = b) : Ending.returned (.bool a) = .returned (.bool b) := by rw [h]
/-- The slice value '.slice A xs.length cap' reads as the numbers xs. -/
def RdI (w : World) (A : Option Addr) (xs : List Int) : Prop :=
  0 < xs.length → ∃ b off, A = some ⟨b, off, none⟩ ∧ b < w.heap.size ∧ ∀ k, k < xs.length → w.cell? ⟨b, off + k, none⟩ = some (.int .i64 (xs.getD k 0))
theorem RdI.below {w w' : World} {B : Nat} {A : Option Addr} {xs : List Int} (h : RdI w A xs) (hb : Below B w w') (hB : w.heap.size ≤ B) : RdI w' A xs := fun h0 => by
  obtain ⟨b, off, e, h1, h2⟩ := h h0
  exact ⟨b, off, e, Nat.lt_of_lt_of_le h1 hb.size, fun k hk => (hb.cell (by show b < B; omega)).trans (h2 k hk)⟩
theorem RdI.nil {w : World} {A : Option Addr} : RdI w A [] := fun h => absurd h (by simp)
def Apart (v u : Value) : Prop := v.ownBlock = none ∨ u.ownBlock = none ∨ v.ownBlock ≠ u.ownBlock
theorem Apart.symm {v u : Value} (h : Apart v u) : Apart u v := by
  rcases h with h | h | h
  · exact .inr (.inl h)
  · exact .inl h
  · exact .inr (.inr h.symm)
theorem other_kept {w w1 w2 : World} {o : Obj} {B n m : Nat} {e f : TypeId} {s r : Nat} {v v' u : Value} {xs ys : List Value} (hw : w1 = w.alloc o) (hu : w.ownsRow B f r u m ys) (ha : Apart v u)
    (hg : w1.grownBy w2 v.ownBlock) (hat : v'.ownBlock = v.ownBlock ∨ v'.ownBlock = some w1.heap.size) (_h : w2.ownsRow B e s v' n xs) : w2.ownsRow B f r u m ys ∧ Apart v' u := by
  subst hw
  refine ⟨?_, ?_⟩
  · by_cases hn : v.ownBlock = none ∨ u.ownBlock = none
    · rcases hn with hn | hn
      · rw [hn] at hg
        refine (hu.alloc o).kept hg ?_
        cases hub : u.ownBlock with
        | none => exact .inl rfl
        | some k => exact .inr (by simp)
      · exact (hu.alloc o).kept hg (.inl hn)
    · have hne : v.ownBlock ≠ u.ownBlock := by
        rcases ha with h | h | h
        · exact absurd (.inl h) hn
        · exact absurd (.inr h) hn
        · exact h
      exact (hu.alloc o).kept hg (.inr hne.symm)
  · rcases hat with hat | hat
    · unfold Apart at *; rw [hat]; exact ha
    · cases hub : u.ownBlock with
      | none => exact .inr (.inl hub)
      | some k =>
        have := (hu.lt k hub).2
        refine .inr (.inr ?_)
        rw [hat, hub]
        simp
        omega
theorem below_app {w0 w w1 w2 : World} {o : Obj} {B n : Nat} {e : TypeId} {s : Nat} {v : Value} {xs : List Value} (hw : w1 = w.alloc o) (hb : Below B w0 w) (hB : B ≤ w.heap.size) (hv : w.ownsRow B e s v n xs) (hg : w1.grownBy w2 v.ownBlock) : Below B w0 w2 := by
  subst hw
  exact (hb.alloc hB o).grown hg (by simp; omega) fun k hk => (hv.lt k hk).1
theorem RdI_own {w : World} {B : Nat} {e : TypeId} {A : Option Addr} {n c : Nat} {xs : List Int} (h : w.ownsRow B e 1 (.slice A n c) n (xs.map (Value.int .i64))) : RdI w A xs := by
  intro h0
  have hl := h.1
  simp at hl
  rcases h.2 with ⟨h1, h2⟩ | ⟨g, cap, cur, hv, _⟩
  · omega
  · injection hv with hA hn hc
    subst hA
    have hlt := (h.lt g rfl).2
    refine ⟨g, 0, rfl, hlt, fun k hk => ?_⟩
    have := h.cells (g := g) rfl k (.int .i64 (xs.getD k 0)) (by simp [List.getD_eq_getElem?_getD, hk])
    rwa [WideShapes.add_plain] at this

/-- In a region that draws: a call by a contract that turns nothing. -/
theorem quiet_same {P : Program} {f : FuncId} {args : Array Value} {w : World} {n : Nat} {v : Value} (h : Calls P f args (w.drewN n) fun e w' => e = .returned v ∧ w.drewN n = w') : Calls P f args (w.drewN n) fun e w'' => e = .returned v ∧ ∃ m, w'' = w.drewN m :=
  h.mono fun _ _ ⟨he, hm⟩ => ⟨he, n, hm.symm⟩
theorem bdrewN {B : Nat} {a w : World} (h : Below B a w) (n : Nat) : Below B a (w.drewN n) := h.trans ⟨rfl, rfl, rfl, Nat.le_refl _, fun _ _ => rfl⟩
theorem own : ownKnob Tryd.prog.godebug = none := by kernel_rfl
end Go.Proofs.YticonpjkcocgeaaDoor

set_option linter.unusedVariables false
namespace Go.Proofs.YticonpjkcocgeaaDoor
open Go.ChangeShapes Go.WideShapes Go.ChangeAt Go.RowKit

/-- A world that is as w was below its heap's size. -/
structure After (w : World) where
  val : World
  is : Below w.heap.size w val
theorem after_ne (w : World) : Nonempty (After w) := ⟨⟨w, Below.refl _ _⟩⟩
instance (w : World) : Nonempty (After w) := after_ne w
theorem After.cell {w : World} (x : After w) (b o : Nat) (h : b < w.heap.size) : x.val.cell? ⟨b, o, none⟩ = w.cell? ⟨b, o, none⟩ := x.is.cell (p := ⟨b, o, none⟩) h
theorem After.frozen {w : World} (x : After w) (b o : Nat) (h : b < w.heap.size) : x.val.frozen? ⟨b, o, none⟩ = w.frozen? ⟨b, o, none⟩ := x.is.frozen (p := ⟨b, o, none⟩) h
attribute [go_sem] After.cell After.frozen
/-- A region in the world w, or in a world that is as w was. -/
theorem wp_region_after {P : Program} {id : Nat} {Q : Exit → Act → World → Prop} {a : Act} {w : World} {l : List Oper} (hm : P.follows .mixedOrders = true) (hB : Region.lexB .any l.toArray = true)
    (h : wpQuiet P l.toArray (fun w' => ∃ x : After w, w' = x.val) (fun a' => ∀ w', (∃ x : After w, w' = x.val) → Q .normal a' w') l a) : (Code.region id l.toArray true).wp P Q a w :=
  wp_region_quiet (C := fun w' => ∃ x : After w, w' = x.val) hm hB ⟨⟨w.drew, (Below.refl _ _).drew⟩, rfl⟩ (by simpa using h)
theorem wp_region_in {P : Program} {id : Nat} {Q : Exit → Act → World → Prop} {a : Act} {w : World} (x : After w) {l : List Oper} (hm : P.follows .mixedOrders = true) (hB : Region.lexB .any l.toArray = true)
    (h : wpQuiet P l.toArray (fun w' => ∃ x : After w, w' = x.val) (fun a' => ∀ w', (∃ x : After w, w' = x.val) → Q .normal a' w') l a) : (Code.region id l.toArray true).wp P Q a x.val :=
  wp_region_quiet (C := fun w' => ∃ x : After w, w' = x.val) hm hB ⟨⟨x.val.drew, x.is.drew⟩, rfl⟩ (by simpa using h)
/-- A call inside such a region, by its contract. -/
theorem after_call {P : Program} {f : FuncId} {args : Array Value} {w : World} {v : Value} (x : After w) (h : Calls P f args x.val fun e w' => e = .returned v ∧ Below x.val.heap.size x.val w') :
    Calls P f args x.val fun e w'' => e = .returned v ∧ ∃ y : After w, w'' = y.val :=
  h.mono fun _ w' ⟨he, hb⟩ => ⟨he, ⟨w', x.is.trans (hb.mono x.is.size)⟩, rfl⟩
theorem after_same {P : Program} {f : FuncId} {args : Array Value} {w : World} {v : Value} (x : After w) (h : Calls P f args x.val fun e w' => e = .returned v ∧ x.val = w') :
    Calls P f args x.val fun e w'' => e = .returned v ∧ ∃ y : After w, w'' = y.val :=
  h.mono fun _ w' ⟨he, hb⟩ => ⟨he, x, hb.symm⟩
/-- Outside a region: what a contract leaves is a world as w was. -/
theorem to_after {P : Program} {f : FuncId} {args : Array Value} {w : World} {v : Value} (h : Calls P f args w fun e w' => e = .returned v ∧ Below w.heap.size w w') :
    Calls P f args w fun e w'' => ∃ y : After w, e = .returned v ∧ w'' = y.val := h.mono fun _ w' ⟨he, hb⟩ => ⟨⟨w', hb⟩, he, rfl⟩
theorem in_after {P : Program} {f : FuncId} {args : Array Value} {w : World} {v : Value} (x : After w) (h : Calls P f args x.val fun e w' => e = .returned v ∧ Below x.val.heap.size x.val w') :
    Calls P f args x.val fun e w'' => ∃ y : After w, e = .returned v ∧ w'' = y.val := h.mono fun _ w' ⟨he, hb⟩ => ⟨⟨w', x.is.trans (hb.mono x.is.size)⟩, he, rfl⟩
/-- The block b holds the values vs from its beginning on. -/
def CellsAt (w : World) (b : Nat) (vs : List Value) : Prop := b < w.heap.size ∧ ∀ j v, vs[j]? = some v → w.cell? ⟨b, j, none⟩ = some v
theorem CellsAt.new {w : World} {cs : Array Value} {t : TypeId} {b : Nat} (hb : b = w.heap.size) : CellsAt (w.alloc (.cells cs t)) b cs.toList := by
  subst hb
  refine ⟨by simp, fun j v hj => ?_⟩
  rw [Array.getElem?_toList] at hj
  exact (World.cell?_alloc_new w cs t j).trans hj
theorem CellsAt.alloc {w : World} {b : Nat} {vs : List Value} (h : CellsAt w b vs) (o : Obj) : CellsAt (w.alloc o) b vs :=
  ⟨by have := h.1; simp; omega, fun j v hj => (World.cell?_alloc_lt w o ⟨b, j, none⟩ h.1).trans (h.2 j v hj)⟩
theorem CellsAt.below {w w' : World} {B b : Nat} {vs : List Value} (h : CellsAt w b vs) (hb : Below B w w') (hB : b < B) : CellsAt w' b vs :=
  ⟨Nat.lt_of_lt_of_le h.1 hb.size, fun j v hj => (hb.cell (p := ⟨b, j, none⟩) hB).trans (h.2 j v hj)⟩
theorem CellsAt.keep {w w' : World} {b : Nat} {vs : List Value} (h : CellsAt w b vs) (hb : Below w.heap.size w w') : CellsAt w' b vs := h.below hb h.1
end Go.Proofs.YticonpjkcocgeaaDoor

set_option linter.unusedVariables false
namespace Go.Proofs.YticonpjkcocgeaaDoor
open Go.ChangeShapes Go.WideShapes Go.ChangeAt Go.RowKit

section
variable {P : Program} {ops : Array Oper} {md : Region.Mode} {C : World → Prop}
/-- Whatever order is picked among the first n operations, all of them quiet in the class; behind them L. -/
def headQ (P : Program) (md : Region.Mode) (ops : Array Oper) (C : World → Prop) (n : Nat) (L : Array Bool → Act → Prop) : Nat → Array Bool → Act → Prop
  | 0, listed, a => L listed a
  | f + 1, listed, a => Region.ready md ops listed ≠ [] ∧ ∀ i ∈ Region.ready md ops listed, i < n ∧ qOp P ops C i (headQ P md ops C n L f (listed.setIfInBounds i true)) a
theorem headQ_any {n g : Nat} {L : Array Bool → Act → Prop} {Q : Exit → Act → World → Prop} (hL : ∀ listed a w, C w → L listed a → wpAny P md ops Q g listed a w) :
    ∀ (f : Nat) (listed : Array Bool) (a : Act) (w : World), C w → headQ P md ops C n L f listed a → wpAny P md ops Q (f + g) listed a w
  | 0, listed, a, w, hw, h => by rw [Nat.zero_add]; exact hL _ _ _ hw h
  | f + 1, listed, a, w, hw, h => by
    rw [show f + 1 + g = (f + g) + 1 by omega]
    exact ⟨fun h0 => absurd h0 h.1, fun i hi => wpOp_of_qOp hw (fun a' w' hw' h' => headQ_any hL f _ a' w' hw' h') (h.2 i hi).2⟩
theorem headQ_first {n i : Nat} {oi : Oper} {v : Value} {L : Array Bool → Act → Prop} (hi : ops[i]? = some oi) (hsel : ∀ (j : Nat) (o : Oper) cs b, ops[j]? = some o → o.op ≠ .select cs b)
    (hs : Region.sinkB md ops n = true) (hc : Region.chainB md ops n = true) (hn : n < ops.size) (hin : i < n) (hdone : ∀ listed a, L listed a → ∀ j ∈ Region.ready md ops listed, n ≤ j) :
    ∀ (f : Nat) (listed : Array Bool) (a : Act), HeadInv md ops n listed →
      (∀ j oj, ops[j]? = some oj → j ≠ i → listed.getD j true = false → (∀ e ∈ oj.after, Region.binds md e = true → e.on ≠ i) → oi.apart ops oj = true) →
      i ∈ Region.ready md ops listed → YieldsIn P ops C oi v a → headQ P md ops C n L f (listed.setIfInBounds i true) (a.put oi.dst v) → headQ P md ops C n L (f + 1) listed a := by
  intro f
  induction f with
  | zero =>
    intro listed a inv _ hr hy H
    have hun := (mem_ready.1 hr).1
    refine ⟨fun h => (by rw [h] at hr; cases hr), fun j hj => ?_⟩
    have hjn : j < n := Nat.lt_of_not_le fun h => tail_waits hs hc hn inv _ i rfl hin hun j h hj
    refine ⟨hjn, ?_⟩
    by_cases hji : j = i
    · subst hji; exact hy.qOp hi H
    · have := hdone _ _ H j (ready_mono hj hji)
      omega
  | succ f ih =>
    intro listed a inv hfree hr hy H
    have hun := (mem_ready.1 hr).1
    refine ⟨fun h => (by rw [h] at hr; cases hr), fun j hj => ?_⟩
    have hjn : j < n := Nat.lt_of_not_le fun h => tail_waits hs hc hn inv _ i rfl hin hun j h hj
    refine ⟨hjn, ?_⟩
    by_cases hji : j = i
    · subst hji; exact hy.qOp hi H
    · have h1 := (H.2 j (ready_mono hj hji)).2
      obtain ⟨hjun, oj, hoj, hall⟩ := mem_ready.1 hj
      have hnot : ∀ e ∈ oj.after, Region.binds md e = true → e.on ≠ i := fun e he hb heq => by
        have h1 := hall e he hb
        rw [heq, getD_both hun] at h1
        cases h1
      have h2 := qOp_put hoj (hfree j oj hoj hji hjun hnot) (fun cs b => hsel i oi cs b hi) (fun cs b => hsel j oj cs b hoj) hy h1
      have hfree' : ∀ k ok, ops[k]? = some ok → k ≠ i → (listed.setIfInBounds j true).getD k true = false →
          (∀ e ∈ ok.after, Region.binds md e = true → e.on ≠ i) → oi.apart ops ok = true := fun k ok hk hki hun hno => by
        refine hfree k ok hk hki ?_ hno
        by_cases hjk : j = k
        · subst hjk; exact hjun
        · rw [getD_set_ne true hjk] at hun; exact hun
      refine qOp_mono (fun a' h3 => ih (listed.setIfInBounds j true) a' (inv.set hj hjn) hfree' (ready_mono hr (Ne.symm hji)) h3.1 ?_) h2
      rw [Array.setIfInBounds_comm _ _ hji]
      exact h3.2
theorem headQ_lex {n g : Nat} {R : Act → Prop} (hsel : Region.noSelect ops = true) (hs : Region.sinkB md ops n = true) (hc : Region.chainB md ops n = true) (hn : n < ops.size) :
    ∀ (l : List Oper) (k : Nat) (listed : Array Bool) (a : Act), (∀ j, j < l.length → l[j]? = ops[k + j]?) → k + l.length = n → HeadInv md ops n listed →
    Region.lexHead md ops g l.length k listed = true → wpQuiet P ops C R l a → headQ P md ops C n (fun listed' a' => Region.seqB md ops g n listed' = true ∧ R a') l.length listed a
  | [], k, listed, a, _, hk, _, hB, h => by
    have : k = n := by simpa using hk
    subst this
    exact ⟨by simpa [Region.lexHead] using hB, h⟩
  | o :: l, k, listed, a, hl, hk, inv, hB, h => by
    have h0 : ops[k]? = some o := by simpa using (hl 0 (by simp)).symm
    simp only [List.length_cons, Region.lexHead, Bool.and_eq_true] at hB
    obtain ⟨⟨hr, hf⟩, hB'⟩ := hB
    have hkn : k < n := by simp only [List.length_cons] at hk; omega
    have hr' : k ∈ Region.ready md ops listed := by simpa using hr
    have hst : qOp P ops C k (wpQuiet P ops C R l) a := by unfold qOp; simp only [h0]; exact h
    obtain ⟨v, hy, hK⟩ := yieldsIn_of_qOp h0 hst
    exact headQ_first h0 (Region.noSelect_spec hsel) hs hc hn hkn (fun listed' a' hL => seqB_ready hL.1) l.length listed a inv (Region.free_spec h0 hf) hr' hy
      (headQ_lex hsel hs hc hn l (k + 1) _ _ (fun j hj => by have := hl (j + 1) (by simp; omega); simpa [Nat.add_assoc, Nat.add_comm 1 j] using this) (by simp only [List.length_cons] at hk; omega) (inv.set hr' hkn) hB' hK)
end
theorem region_tail {P : Program} {C : World → Prop} {id : Nat} {Q : Exit → Act → World → Prop} {a : Act} {w : World} {l : List Oper} (n : Nat) (hm : P.follows .mixedOrders = true) (hB : Region.lexTailB .any l.toArray n = true) (hC : C { w with drawn := w.drawn + 1 })
    (h : wpQuiet P l.toArray C (fun a' => ∀ w', C w' → wpList P l.toArray Q (l.drop n) a' w') (l.take n) a) : (Code.region id l.toArray true).wp P Q a w := by
  simp only [Region.lexTailB, Bool.and_eq_true, decide_eq_true_eq] at hB
  obtain ⟨⟨⟨⟨hsel, hn⟩, hs⟩, hc⟩, hlex⟩ := hB
  have hn' : n < l.length := by simpa using hn
  have htl : (l.take n).length = n := by simp; omega
  have hdl : (l.drop n).length = l.toArray.size - n := by simp
  have inv0 : HeadInv .any l.toArray n (Array.replicate l.toArray.size false) :=
    ⟨by simp, fun j oj _ hl => (by rw [getD_replicate_false] at hl; cases hl), fun t _ ht => getD_in (by simpa using ht) (getD_replicate_false _ _)⟩
  have H := headQ_lex (md := .any) (g := l.toArray.size - n) hsel hs hc hn (l.take n) 0 _ a (fun j hj => by
    have hj' : j < n := by rw [htl] at hj; exact hj
    simp [hj']) (by simpa using htl) inv0 (by rw [htl]; exact hlex) h
  refine wp_region_any hm ?_
  have := headQ_any (Q := Q) (g := l.toArray.size - n) (fun listed a' w' hw' hL => by
    have := wpAny_of_seq (md := .any) (Q' := Q) (l.drop n) n listed a' w' (fun j => by simp [List.getElem?_drop]) (by rw [hdl]; exact hL.1) (hL.2 w' hw')
    rwa [hdl] at this) _ _ _ { w with drawn := w.drawn + 1 } hC H
  rw [htl, show n + (l.toArray.size - n) = l.toArray.size by omega] at this
  exact this
/-- The first n operations quiet in every world that is as w was below its heap's size; then the rest in order. -/
theorem wp_tail_after {P : Program} {id : Nat} {Q : Exit → Act → World → Prop} {a : Act} {w : World} {l : List Oper} (n : Nat) (hm : P.follows .mixedOrders = true) (hB : Region.lexTailB .any l.toArray n = true)
    (h : wpQuiet P l.toArray (fun w' => ∃ x : After w, w' = x.val) (fun a' => ∀ w', (∃ x : After w, w' = x.val) → wpList P l.toArray Q (l.drop n) a' w') (l.take n) a) : (Code.region id l.toArray true).wp P Q a w :=
  region_tail n hm hB ⟨⟨w.drew, (Below.refl _ _).drew⟩, rfl⟩ h
theorem wp_tail_in {P : Program} {id : Nat} {Q : Exit → Act → World → Prop} {a : Act} {w : World} (x : After w) {l : List Oper} (n : Nat) (hm : P.follows .mixedOrders = true) (hB : Region.lexTailB .any l.toArray n = true)
    (h : wpQuiet P l.toArray (fun w' => ∃ x : After w, w' = x.val) (fun a' => ∀ w', (∃ x : After w, w' = x.val) → wpList P l.toArray Q (l.drop n) a' w') (l.take n) a) : (Code.region id l.toArray true).wp P Q a x.val :=
  region_tail n hm hB ⟨⟨x.val.drew, x.is.drew⟩, rfl⟩ h
end Go.Proofs.YticonpjkcocgeaaDoor

set_option linter.unusedVariables false
set_option linter.unusedSimpArgs false
namespace Go.Proofs.YticonpjkcocgeaaDoor
open Go.ChangeShapes Go.WideShapes Go.ChangeAt Go.RowKit

/-- The slice value '.slice A xs.length cap', of elements of k cells, reads as the list xs; enc: an element's cells. -/
def Rd {α : Type} (w : World) (A : Option Addr) (k : Nat) (enc : α → List Value) (xs : List α) : Prop :=
  0 < xs.length → ∃ b off, A = some ⟨b, off, none⟩ ∧ b < w.heap.size ∧ ∀ i x, xs[i]? = some x → ∀ j v, (enc x)[j]? = some v → w.cell? ⟨b, off + i * k + j, none⟩ = some v
theorem Rd.nil {α : Type} {w : World} {A : Option Addr} {k : Nat} {enc : α → List Value} : Rd w A k enc [] := fun h => absurd h (by simp)
theorem Rd.below {α : Type} {w w' : World} {B : Nat} {A : Option Addr} {k : Nat} {enc : α → List Value} {xs : List α} (h : Rd w A k enc xs) (hb : Below B w w') (hB : w.heap.size ≤ B) : Rd w' A k enc xs := fun h0 => by
  obtain ⟨b, off, e, h1, h2⟩ := h h0
  exact ⟨b, off, e, Nat.lt_of_lt_of_le h1 hb.size, fun i x hi j v hj => (hb.cell (by show b < B; omega)).trans (h2 i x hi j v hj)⟩
theorem Rd.keep {α : Type} {w w' : World} {A : Option Addr} {k : Nat} {enc : α → List Value} {xs : List α} (h : Rd w A k enc xs) (hb : Below w.heap.size w w') : Rd w' A k enc xs := h.below hb (Nat.le_refl _)
/-- A block of the call's own: its cells, none frozen. -/
def Own (w : World) (b : Nat) (vs : List Value) : Prop := b < w.heap.size ∧ (∀ j v, vs[j]? = some v → w.cell? ⟨b, j, none⟩ = some v) ∧ ∀ j, w.frozen? ⟨b, j, none⟩ = false
theorem Own.cells {w : World} {b : Nat} {vs : List Value} (h : Own w b vs) : CellsAt w b vs := ⟨h.1, h.2.1⟩
theorem Own.below {w w' : World} {B b : Nat} {vs : List Value} (h : Own w b vs) (hb : Below B w w') (hB : b < B) : Own w' b vs :=
  ⟨Nat.lt_of_lt_of_le h.1 hb.size, fun j v hj => (hb.cell (p := ⟨b, j, none⟩) hB).trans (h.2.1 j v hj), fun j => (hb.frozen (p := ⟨b, j, none⟩) hB).trans (h.2.2 j)⟩
theorem Own.keep {w w' : World} {b : Nat} {vs : List Value} (h : Own w b vs) (hb : Below w.heap.size w w') : Own w' b vs := h.below hb h.1
theorem Own.new {w : World} {cs : Array Value} {t : TypeId} {b : Nat} (hb : b = w.heap.size) : Own (w.alloc (.cells cs t)) b cs.toList :=
  ⟨(CellsAt.new hb).1, (CellsAt.new hb).2, fun j => World.frozen?_alloc_at cs t b j hb⟩
theorem Own.alloc {w : World} {b : Nat} {vs : List Value} (h : Own w b vs) (o : Obj) : Own (w.alloc o) b vs := h.below ((Below.refl _ _).alloc (Nat.le_refl _) _) h.1
/-- w' is w but for the block b. -/
structure Only (b : Nat) (w w' : World) : Prop where
  os : w'.os = w.os
  tape : w'.tape = w.tape
  output : w'.output = w.output
  size : w'.heap.size = w.heap.size
  block : ∀ k, k ≠ b → w'.heap[k]? = w.heap[k]?
theorem Only.refl (b : Nat) (w : World) : Only b w w := ⟨rfl, rfl, rfl, rfl, fun _ _ => rfl⟩
theorem Only.trans {b : Nat} {u v w : World} (h : Only b u v) (g : Only b v w) : Only b u w :=
  ⟨g.os.trans h.os, g.tape.trans h.tape, g.output.trans h.output, g.size.trans h.size, fun k hk => (g.block k hk).trans (h.block k hk)⟩
theorem Only.set (w : World) (b o : Nat) (v : Value) : Only b w (w.setCell ⟨b, o, none⟩ v) :=
  ⟨rfl, rfl, rfl, by simp [World.setCell], fun k hk => Below.heap_setCell _ _ _ _ (by simpa using hk)⟩
theorem Below.only {B b : Nat} {u v w : World} (h : Below B u v) (g : Only b v w) (hb : B ≤ b) : Below B u w :=
  ⟨g.os.trans h.os, g.tape.trans h.tape, g.output.trans h.output, by rw [g.size]; exact h.size, fun k hk => (g.block k (by omega)).trans (h.block k hk)⟩
theorem CellsAt.only {b c : Nat} {v w : World} {vs : List Value} (h : CellsAt v c vs) (g : Only b v w) (hb : c ≠ b) : CellsAt w c vs :=
  ⟨by rw [g.size]; exact h.1, fun j u hj => (World.cell?_of_block (w := v) (a := ⟨c, j, none⟩) (g.block c hb)).trans (h.2 j u hj)⟩
theorem Own.only {b c : Nat} {v w : World} {vs : List Value} (h : Own v c vs) (g : Only b v w) (hb : c ≠ b) : Own w c vs :=
  ⟨(h.cells.only g hb).1, (h.cells.only g hb).2, fun j => (World.frozen?_of_block (w := v) (a := ⟨c, j, none⟩) (g.block c hb)).trans (h.2.2 j)⟩
theorem Own.set {w : World} {b : Nat} {vs : List Value} (h : Own w b vs) (o : Nat) (ho : o < vs.length) (v : Value) : Own (w.setCell ⟨b, o, none⟩ v) b (vs.set o v) := by
  refine ⟨by rw [(Only.set w b o v).size]; exact h.1, fun j u hj => ?_, fun j => ?_⟩
  · by_cases e : o = j
    · subst e
      rw [List.getElem?_set_self ho] at hj
      cases hj
      exact World.cell?_setCell_same _ _ _ (h.2.1 o _ (List.getElem?_eq_getElem ho))
    · rw [List.getElem?_set_ne e] at hj
      rw [World.cell?_setCell_other _ _ _ _ (by intro e2; simp only [Addr.mk.injEq] at e2; omega)]
      exact h.2.1 j u hj
  · have := h.2.2 j
    simp only [World.frozen?, World.setCell, Array.getElem?_modify] at this ⊢
    cases hq : w.heap[b]? with
    | none => simp [hq]
    | some ob => cases ob <;> simp_all
theorem set3 {w : World} {b : Nat} {us : List Value} (v0 v1 v2 : Value) (h : Own w b us) (h3 : us.length = 3) : ∃ w', w' = (((w.setCell ⟨b, 0, none⟩ v0).setCell ⟨b, 1, none⟩ v1).setCell ⟨b, 2, none⟩ v2) ∧ Own w' b [v0, v1, v2] ∧ Only b w w' := by
  refine ⟨_, rfl, ?_, ((Only.set _ _ _ _).trans (Only.set _ _ _ _)).trans (Only.set _ _ _ _)⟩
  match us, h3 with
  | [u0, u1, u2], _ => exact ((h.set 0 (by simp) v0).set 1 (by simp) v1).set 2 (by simp) v2
end Go.Proofs.YticonpjkcocgeaaDoor

set_option linter.unusedVariables false
set_option linter.unusedSimpArgs false
namespace Go.Proofs.YticonpjkcocgeaaDoor
open Go.ChangeShapes Go.WideShapes Go.ChangeAt Go.RowKit

/-- The slice value v owns the elements xs (of type e, k cells each) in a block from base on. -/
def OwnL {α : Type} (w : World) (base : Nat) (e : TypeId) (k : Nat) (enc : α → List Value) (v : Value) (xs : List α) : Prop := w.ownsRow base e k v xs.length (xs.flatMap enc)
section
variable {α : Type} {w w' : World} {base : Nat} {e : TypeId} {k : Nat} {enc : α → List Value} {v : Value} {xs : List α}
theorem OwnL.nil : OwnL w base e k enc (.slice none 0 0) ([] : List α) := World.ownsRow_nil _ _ _ _
theorem OwnL.keep (h : OwnL w base e k enc v xs) (hb : Below w.heap.size w w') : OwnL w' base e k enc v xs := by
  refine ⟨h.1, ?_⟩
  rcases h.2 with h0 | ⟨g, cap, cur, rfl, h1, h2, h3⟩
  · exact .inl h0
  · have hg : g < w.heap.size := by
      rcases Nat.lt_or_ge g w.heap.size with hl | hl
      · exact hl
      · rw [Array.getElem?_eq_none hl] at h2; cases h2
    exact .inr ⟨g, cap, cur, rfl, h1, by rw [hb.block g hg]; exact h2, h3⟩
theorem OwnL.only {b : Nat} (h : OwnL w base e k enc v xs) (ho : Only b w w') (hb : v.ownBlock ≠ some b) : OwnL w' base e k enc v xs := by
  refine ⟨h.1, ?_⟩
  rcases h.2 with h0 | ⟨g, cap, cur, rfl, h1, h2, h3⟩
  · exact .inl h0
  · exact .inr ⟨g, cap, cur, rfl, h1, by rw [ho.block g (by intro e; subst e; exact hb rfl)]; exact h2, h3⟩
theorem OwnL.lt (h : OwnL w base e k enc v xs) : ∀ b, v.ownBlock = some b → base ≤ b ∧ b < w.heap.size := World.ownsRow.lt h
theorem flat_at (hk : ∀ x, (enc x).length = k) : ∀ (xs : List α) (i j : Nat) (x : α) (u : Value), xs[i]? = some x → (enc x)[j]? = some u → (xs.flatMap enc)[i * k + j]? = some u
  | [], i, j, x, u, hi, _ => by simp at hi
  | y :: ys, 0, j, x, u, hi, hj => by
    simp at hi; subst hi
    have hl : j < (enc y).length := (List.getElem?_eq_some_iff.1 hj).1
    simp only [List.flatMap_cons]
    rw [List.getElem?_append_left (by omega)]
    simpa using hj
  | y :: ys, i + 1, j, x, u, hi, hj => by
    have h := flat_at hk ys i j x u (by simpa using hi) hj
    simp only [List.flatMap_cons]
    have e : (i + 1) * k + j = k + (i * k + j) := by rw [Nat.succ_mul]; omega
    rw [e, List.getElem?_append_right (by rw [hk]; omega), hk]
    simpa using h
theorem OwnL.rd (hk : ∀ x, (enc x).length = k) (h : OwnL w base e k enc v xs) : ∃ A cap, v = .slice A xs.length cap ∧ Rd w A k enc xs ∧ xs.length ≤ maxLen := by
  rcases h.2 with ⟨h0, h1⟩ | ⟨g, cap, cur, h0, h1, h2, h3, h4, _⟩
  · have : xs = [] := List.eq_nil_of_length_eq_zero h1
    subst this
    exact ⟨none, 0, h0, Rd.nil, by simp⟩
  · refine ⟨some ⟨g, 0, none⟩, cap, h0, fun _ => ⟨g, 0, rfl, (World.ownsRow.lt h g (by rw [h0]; rfl)).2, fun i x hi j u hj => ?_⟩, by omega⟩
    have hb : v.ownBlock = some g := by rw [h0]; rfl
    have := World.ownsRow.cells h hb (i * k + j) u (flat_at hk xs i j x u hi hj)
    rw [add_plain] at this
    rw [← this]; congr 2; omega
theorem CellsAt.grown {b : Nat} {vs : List Value} {row : Option Nat} (h : CellsAt w b vs) (hg : w.grownBy w' row) (hb : row ≠ some b) : CellsAt w' b vs :=
  ⟨Nat.lt_of_lt_of_le h.1 hg.size, fun j u hj => (World.cell?_of_block (w := w) (a := ⟨b, j, none⟩) (hg.block b h.1 (fun e => hb e.symm))).trans (h.2 j u hj)⟩
theorem OwnL.app_below {B : Nat} {u : World} (hb : Below B u w) (hB : B ≤ w.heap.size) (hv : ∀ b, v.ownBlock = some b → B ≤ b) (hg : w.grownBy w' v.ownBlock) : Below B u w' := hb.grown hg hB hv
end
/-- append of one element that lies in a block of its own. -/
theorem wp_app1 {α : Type} {P : Program} {w : World} {ops : Array Oper} {rest : List Oper} {o : Oper} {a : Act} {Q : Exit → Act → World → Prop} {base : Nat} {e : TypeId} {k bytes : Nat} {enc : α → List Value} {v : Value} {xs : List α} {t : TypeId} {i : TypeInfo} {z : Value} {s x : Operand}
    (hk : ∀ x, (enc x).length = k) (hone : ∀ x, ∀ u ∈ enc x, u.oneCell' = true) (ht : P.underlying t = some (.slice e)) (hi : P.info? e = some i) (hz : i.zero = some z) (hsize : i.size = k) (hby : i.bytes = bytes) (hzs : z.cells.size = k) (hsz : 0 < k)
    (hgd : o.guard = none) (ho : o.op = .call { callee := .builtin .append, args := #[s, x], argTypes := #[t, t] }) (hs : a.eval s = v) (hown : OwnL w base e k enc v xs) (y : α) (b : Nat) (hx : a.eval x = .slice (some ⟨b, 0, none⟩) 1 1) (hb : CellsAt w b (enc y))
    (hlen : (xs.length + 1) * bytes ≤ 140737488355328) (hlen2 : xs.length + 1 ≤ maxLen) (hbase : base ≤ w.heap.size)
    (h : ∀ v' w', OwnL w' base e k enc v' (xs ++ [y]) → w.grownBy w' v.ownBlock → (v'.ownBlock = v.ownBlock ∨ v'.ownBlock = some w.heap.size) → wpList P ops Q rest (a.put o.dst v') w') : wpList P ops Q (o :: rest) a w := by
  refine wpList_append_own_at w hgd s x t ho base e i z k bytes ht hi hz hsize hby hzs hsz v xs.length (xs.flatMap enc) hs hown ⟨b, 0, none⟩ 1 1 (enc y) hx (by rw [hk]; omega) (fun j u hj => ?_) (hone y) hlen2 hlen hbase (fun v' w' h1 h2 _ h4 => h v' w' ?_ h2 h4)
  · rw [add_plain, Nat.zero_add]; exact hb.2 j u hj
  · unfold OwnL
    simpa using h1
end Go.Proofs.YticonpjkcocgeaaDoor

set_option linter.unusedVariables false
namespace Go.Proofs.YticonpjkcocgeaaDoor
open Go.ChangeShapes Go.WideShapes Go.ChangeAt Go.RowKit

abbrev Ext (w w' : World) : Prop := Below w.heap.size w w'
theorem Ext.refl (w : World) : Ext w w := Below.refl _ _
theorem Ext.trans {u v w : World} (h : Ext u v) (g : Ext v w) : Ext u w := Below.trans h (Below.mono g h.size)
section
variable {P : Program} {ops : Array Oper} {md : Region.Mode} {Q : Exit → Act → World → Prop}
/-- In state a, in every world that extends w0, the operation yields v and extends the world. -/
def YieldsE (P : Program) (ops : Array Oper) (w0 : World) (o : Oper) (v : Value) (a : Act) : Prop :=
  (Region.wanted o (yielded ops a.tmps) = true ∧ ∀ x : After w0, o.quietAt P a (Ext x.val) x.val v) ∨ (Region.wanted o (yielded ops a.tmps) = false ∧ v = undef)
theorem YieldsE.of_same {w0 : World} {o : Oper} {v : Value} {a a' : Act} (hy : YieldsE P ops w0 o v a) (he : execOp a'.eval o = execOp a.eval o)
    (hw : Region.wanted o (yielded ops a'.tmps) = Region.wanted o (yielded ops a.tmps)) : YieldsE P ops w0 o v a' := by
  unfold YieldsE Oper.quietAt at *
  rw [he, hw]
  exact hy
theorem YieldsE.later {w0 w1 : World} {o : Oper} {v : Value} {a : Act} (hy : YieldsE P ops w0 o v a) (h : Ext w0 w1) : YieldsE P ops w1 o v a :=
  hy.imp (fun ⟨h1, h2⟩ => ⟨h1, fun x => h2 ⟨x.val, Ext.trans h x.is⟩⟩) id
theorem YieldsE.wpOp {w0 w : World} {i : Nat} {o : Oper} {v : Value} {a : Act} (hi : ops[i]? = some o) (hy : YieldsE P ops w0 o v a) {K : Act → World → Prop} (hw : Ext w0 w) (h : ∀ w', Ext w w' → K (a.put o.dst v) w') : wpOp P ops Q i K a w := by
  unfold Go.wpOp
  simp only [hi]
  rcases hy with ⟨hwt, hv⟩ | ⟨hwt, rfl⟩
  · simp only [hwt, if_true]
    refine .inl ?_
    have h3 := hv ⟨w, hw⟩
    unfold Oper.quietAt at h3
    unfold Oper.wp
    simp only at h3
    generalize (execOp a.eval o).run P w = r at *
    cases r with
    | ok n w' =>
      cases n <;> simp only [Oper.quietUpon] at h3 <;> simp only [Oper.upon]
      case value u =>
        obtain ⟨e1, e2⟩ := h3
        rw [e1, e2]
        exact h _ (Ext.refl _)
      case skip =>
        obtain ⟨e1, e2⟩ := h3
        rw [e1, ← e2]
        exact h _ (Ext.refl _)
      case enter f args =>
        obtain ⟨e1, hc⟩ := h3
        rw [e1]
        exact hc.mono fun e w'' ⟨he, hw''⟩ => by subst he; exact h _ hw''
    | halt x w' => simp only [Oper.quietUpon] at h3
  · simp only [hwt, Bool.false_eq_true, if_false]; exact h _ (Ext.refl _)
theorem wpOp_putE {w0 : World} {j : Nat} {oi oj : Oper} {v : Value} (hj : ops[j]? = some oj) (hap : oi.apart ops oj = true)
    (hsi : ∀ cs b, oi.op ≠ .select cs b) (hsj : ∀ cs b, oj.op ≠ .select cs b) (hQ : ∀ c a w, Q (.panic c) (a.put oi.dst v) w → Q (.panic c) a w) {K : Act → World → Prop} {a : Act} {w : World}
    (hy : YieldsE P ops w0 oi v a) (h : wpOp P ops Q j K (a.put oi.dst v) w) : wpOp P ops Q j (fun a' w' => YieldsE P ops w0 oi v a' ∧ K (a'.put oi.dst v) w') a w := by
  obtain ⟨h1, h2, h3⟩ := Oper.apart_spec hap
  have keep : ∀ (a : Act), YieldsE P ops w0 oi v a → ∀ u, YieldsE P ops w0 oi v (a.put oj.dst u) := fun a hy u => hy.of_same (execOp_put oi hsi a oj.dst u h3) (wanted_put oi a oj.dst u h3)
  have keepD : ∀ d, YieldsE P ops w0 oi v { a with defers := d :: a.defers } := fun d => hy.of_same rfl rfl
  unfold wpOp at *
  simp only [hj] at *
  rw [wanted_put oj a oi.dst v h1] at h
  split
  · rename_i hw
    simp only [hw, if_true] at h
    rcases h with h | ⟨hasks, hlets⟩
    case inr => exact .inr ⟨by unfold Oper.asks at *; rw [execOp_put oj hsj a oi.dst v h1] at hasks; exact hasks, hlets⟩
    refine .inl ?_
    unfold Oper.wp at *
    rw [execOp_put oj hsj a oi.dst v h1] at h
    generalize (execOp a.eval oj).run P w = r at *
    cases r with
    | ok n w' =>
      cases n <;> simp only [Oper.upon] at h ⊢
      case value u => exact ⟨keep a hy u, by rw [← Act.put_comm a v u h2]; exact h⟩
      case skip => exact ⟨keep a hy _, by rw [← Act.put_comm a v undef h2]; exact h⟩
      case defer d =>
        refine ⟨keep _ (keepD d) _, ?_⟩
        rw [← Act.put_comm _ v undef h2, ← Act.put_defers]
        exact h
      case enter f args =>
        refine Calls.mono h fun e w'' he => ?_
        cases e with
        | returned u => exact ⟨keep a hy u, by rw [← Act.put_comm a v u h2]; exact he⟩
        | panicked c => exact hQ _ _ _ he
        | outgrown => exact he
      case row row args => exact Rows.mono h fun u w'' he => ⟨keep a hy u, by rw [← Act.put_comm a v u h2]; exact he⟩
    | halt x w' =>
      cases x <;> simp only [Oper.upon] at h ⊢
      case panic u => exact hQ _ _ _ h
  · rename_i hw
    simp only [hw] at h
    exact ⟨keep a hy _, by rw [← Act.put_comm a v undef h2]; exact h⟩
/-- Whatever order is picked; each operation extends the world, and what follows holds in every later world. -/
def wpAnyR (P : Program) (md : Region.Mode) (ops : Array Oper) (Q : Exit → Act → World → Prop) : Nat → Array Bool → Act → World → Prop
  | 0, listed, a, w => Region.ready md ops listed = [] ∧ Q .normal a w
  | fuel + 1, listed, a, w => (Region.ready md ops listed = [] → Q .normal a w) ∧
    ∀ i ∈ Region.ready md ops listed, wpOp P ops Q i (fun a' w' => Ext w w' ∧ ∀ w2, Ext w' w2 → wpAnyR P md ops Q fuel (listed.setIfInBounds i true) a' w2) a w
theorem wpAny_of_R : ∀ (fuel : Nat) (listed : Array Bool) (a : Act) (w : World), wpAnyR P md ops Q fuel listed a w → wpAny P md ops Q fuel listed a w
  | 0, _, _, _, h => h
  | fuel + 1, _, _, _, h => ⟨h.1, fun i hi => wpOp_mono (fun a' w' h' => wpAny_of_R fuel _ a' w' (h'.2 _ (Ext.refl _))) (h.2 i hi)⟩
theorem wpAnyR_first {i : Nat} {oi : Oper} {v : Value} (hi : ops[i]? = some oi) (hsel : ∀ (j : Nat) (o : Oper) cs b, ops[j]? = some o → o.op ≠ .select cs b) (hQ : ∀ c a w, Q (.panic c) (a.put oi.dst v) w → Q (.panic c) a w) :
    ∀ (fuel : Nat) (listed : Array Bool) (a : Act) (w0 : World),
      (∀ j oj, ops[j]? = some oj → j ≠ i → listed.getD j true = false → (∀ e ∈ oj.after, Region.binds md e = true → e.on ≠ i) → oi.apart ops oj = true) →
      i ∈ Region.ready md ops listed → YieldsE P ops w0 oi v a → (∀ w2, Ext w0 w2 → wpAnyR P md ops Q fuel (listed.setIfInBounds i true) (a.put oi.dst v) w2) →
      ∀ w, Ext w0 w → wpAnyR P md ops Q (fuel + 1) listed a w := by
  intro fuel
  induction fuel with
  | zero =>
    intro listed a w0 _ hr hy H w hw
    refine ⟨fun h => (by rw [h] at hr; cases hr), fun j hj => ?_⟩
    by_cases hji : j = i
    · subst hji; exact hy.wpOp hi hw fun w' hw' => ⟨hw', fun w2 h2 => H w2 (Ext.trans (Ext.trans hw hw') h2)⟩
    · have := ready_mono hj hji
      rw [(H w hw).1] at this
      cases this
  | succ fuel ih =>
    intro listed a w0 hfree hr hy H w hw
    refine ⟨fun h => (by rw [h] at hr; cases hr), fun j hj => ?_⟩
    by_cases hji : j = i
    · subst hji; exact hy.wpOp hi hw fun w' hw' => ⟨hw', fun w2 h2 => H w2 (Ext.trans (Ext.trans hw hw') h2)⟩
    · have h1 := (H w hw).2 j (ready_mono hj hji)
      obtain ⟨hjun, oj, hoj, hall⟩ := mem_ready.1 hj
      have hnot : ∀ e ∈ oj.after, Region.binds md e = true → e.on ≠ i := fun e he hb heq => by
        have h1 := hall e he hb
        have h0 := (mem_ready.1 hr).1
        rw [heq] at h1
        rcases Nat.lt_or_ge i listed.size with h' | h'
        · simp [h'] at h0 h1; rw [h0] at h1; cases h1
        · simp [Array.getElem?_eq_none h'] at h1
      have h2 := wpOp_putE hoj (hfree j oj hoj hji hjun hnot) (fun cs b => hsel i oi cs b hi) (fun cs b => hsel j oj cs b hoj) hQ hy h1
      have hfree' : ∀ k ok, ops[k]? = some ok → k ≠ i → (listed.setIfInBounds j true).getD k true = false →
          (∀ e ∈ ok.after, Region.binds md e = true → e.on ≠ i) → oi.apart ops ok = true := fun k ok hk hki hun hno => by
        refine hfree k ok hk hki ?_ hno
        by_cases hjk : j = k
        · subst hjk; exact hjun
        · rw [getD_set_ne true hjk] at hun; exact hun
      refine wpOp_mono (fun a' w' h3 => ⟨h3.2.1, ih (listed.setIfInBounds j true) a' w' hfree' (ready_mono hr (Ne.symm hji)) (h3.1.later (Ext.trans hw h3.2.1)) (fun w2 h4 => ?_)⟩) h2
      rw [Array.setIfInBounds_comm _ _ hji]
      exact h3.2.2 w2 h4
/-- The walk of chosen quiet operations, in a chosen order (their numbers l). -/
def wpE (P : Program) (ops : Array Oper) (w0 : World) (R : Act → Prop) : List Nat → Act → Prop
  | [], a => R a
  | i :: rest, a => match ops[i]? with
    | none => False
    | some o => if Region.wanted o (yielded ops a.tmps) then ∃ v, (∀ x : After w0, o.quietAt P a (Ext x.val) x.val v) ∧ wpE P ops w0 R rest (a.put o.dst v) else wpE P ops w0 R rest (a.put o.dst undef)
theorem wpE_nil {w0 : World} {R : Act → Prop} {a : Act} (h : R a) : wpE P ops w0 R [] a := h
theorem wpE_step {w0 : World} {R : Act → Prop} {a : Act} {i : Nat} {o : Oper} {rest : List Nat} (ho : ops[i]? = some o)
    (h : ∀ K : Act → Prop, (∀ a, wpE P ops w0 R rest a → K a) → if Region.wanted o (yielded ops a.tmps) then ∃ v, (∀ x : After w0, o.quietAt P a (Ext x.val) x.val v) ∧ K (a.put o.dst v) else K (a.put o.dst undef)) : wpE P ops w0 R (i :: rest) a := by
  unfold wpE
  rw [ho]
  exact h _ (fun _ h => h)
def takeB (md : Region.Mode) (ops : Array Oper) : List Nat → Array Bool → Bool
  | [], _ => true
  | i :: r, listed => (Region.ready md ops listed).contains i && Region.free md ops listed i && takeB md ops r (listed.setIfInBounds i true)
def listAll (l : List Nat) (listed : Array Bool) : Array Bool := l.foldl (fun b i => b.setIfInBounds i true) listed
theorem wpAnyR_takes (hs : Region.noSelect ops = true) (hQ : ∀ c a (d : Option Nat) v w, Q (.panic c) (a.put d v) w → Q (.panic c) a w) :
    ∀ (l : List Nat) (fuel : Nat) (listed : Array Bool) (a : Act) (w0 : World), takeB md ops l listed = true →
      wpE P ops w0 (fun a' => ∀ x : After w0, wpAnyR P md ops Q fuel (listAll l listed) a' x.val) l a → ∀ w, Ext w0 w → wpAnyR P md ops Q (l.length + fuel) listed a w
  | [], fuel, listed, a, w0, _, h, w, hw => by
    have := h ⟨w, hw⟩
    simpa [listAll] using this
  | i :: l, fuel, listed, a, w0, hB, h, w, hw => by
    simp only [takeB, Bool.and_eq_true] at hB
    obtain ⟨⟨hr, hf⟩, hB'⟩ := hB
    rw [List.length_cons, show l.length + 1 + fuel = (l.length + fuel) + 1 by omega]
    have hr' : i ∈ Region.ready md ops listed := by simpa using hr
    obtain ⟨_, o, ho, _⟩ := mem_ready.1 hr'
    unfold wpE at h
    rw [ho] at h
    by_cases hw' : Region.wanted o (yielded ops a.tmps) = true
    · simp only [hw', if_true] at h
      obtain ⟨v, hv, hk⟩ := h
      exact wpAnyR_first ho (Region.noSelect_spec hs) (fun c a w => hQ c a o.dst v w) (l.length + fuel) listed a w0 (Region.free_spec ho hf) hr' (.inl ⟨hw', hv⟩)
        (fun w2 h2 => wpAnyR_takes hs hQ l fuel _ _ w0 hB' hk w2 h2) w hw
    · simp only [hw'] at h
      exact wpAnyR_first ho (Region.noSelect_spec hs) (fun c a w => hQ c a o.dst undef w) (l.length + fuel) listed a w0 (Region.free_spec ho hf) hr' (.inr ⟨by simpa using hw', rfl⟩)
        (fun w2 h2 => wpAnyR_takes hs hQ l fuel _ _ w0 hB' h w2 h2) w hw
/-- The same later in the walk. -/
theorem wpAnyR_more {fuel n : Nat} {listed : Array Bool} {a : Act} {w : World} (l : List Nat) (hs : Region.noSelect ops = true) (hQ : ∀ c a (d : Option Nat) v w, Q (.panic c) (a.put d v) w → Q (.panic c) a w) (hB : takeB md ops l listed = true) (hn : l.length + fuel = n)
    (h : wpE P ops w (fun a' => ∀ x : After w, wpAnyR P md ops Q fuel (listAll l listed) a' x.val) l a) : wpAnyR P md ops Q n listed a w := by
  subst hn
  exact wpAnyR_takes hs hQ l fuel listed a w hB h w (Ext.refl _)
theorem wpAnyR_done {listed : Array Bool} {a : Act} {w : World} (hr : Region.ready md ops listed = []) (h : Q .normal a w) : ∀ fuel, wpAnyR P md ops Q fuel listed a w
  | 0 => ⟨hr, h⟩
  | _ + 1 => ⟨fun _ => h, by rw [hr]; simp⟩
/-- Each of those that may come up next, one after the other. -/
def AllR (P : Program) (md : Region.Mode) (ops : Array Oper) (Q : Exit → Act → World → Prop) (fuel : Nat) (listed : Array Bool) (a : Act) (w : World) (rs : List Nat) : Prop :=
  ∀ i ∈ rs, wpOp P ops Q i (fun a' w' => Ext w w' ∧ ∀ w2, Ext w' w2 → wpAnyR P md ops Q fuel (listed.setIfInBounds i true) a' w2) a w
theorem AllR.nil {fuel : Nat} {listed : Array Bool} {a : Act} {w : World} : AllR P md ops Q fuel listed a w [] := fun _ h => by cases h
theorem AllR.cons {fuel : Nat} {listed : Array Bool} {a : Act} {w : World} {i : Nat} {o : Oper} {rs : List Nat} (ho : ops[i]? = some o)
    (h : ∀ K' : Act → World → Prop, (∀ a w', Ext w w' → (∀ x : After w', wpAnyR P md ops Q fuel (listed.setIfInBounds i true) a x.val) → K' a w') → if Region.wanted o (yielded ops a.tmps) = true then Oper.wp P o a w K' Q else K' (a.put o.dst undef) w)
    (hs : AllR P md ops Q fuel listed a w rs) : AllR P md ops Q fuel listed a w (i :: rs) := fun j hj => by
  rcases List.mem_cons.1 hj with rfl | hj
  · exact wpOp_step ho (fun K' hK' => h K' (fun a w' h1 h2 => hK' a w' ⟨h1, fun w2 h3 => h2 ⟨w2, h3⟩⟩))
  · exact hs j hj
theorem wpAnyR_ready {rs : List Nat} {fuel : Nat} {listed : Array Bool} {a : Act} {w : World} (hr : Region.ready md ops listed = rs) (hne : rs ≠ []) (h : AllR P md ops Q fuel listed a w rs) : wpAnyR P md ops Q (fuel + 1) listed a w :=
  ⟨fun h0 => absurd (hr ▸ h0) hne, by rw [hr]; exact h⟩
/-- The beginning: the quiet operations l first, then what is left in whatever order. -/
theorem wp_region_mono {id : Nat} {a : Act} {w : World} {L : List Oper} (l : List Nat) (n : Nat) (hm : P.follows .mixedOrders = true) (hs : Region.noSelect L.toArray = true) (hQ : ∀ c a (d : Option Nat) v w, Q (.panic c) (a.put d v) w → Q (.panic c) a w)
    (hB : takeB .any L.toArray l (Array.replicate L.length false) = true) (hn : l.length + n = L.length)
    (h : wpE P L.toArray w (fun a' => ∀ x : After w, wpAnyR P .any L.toArray Q n (listAll l (Array.replicate L.length false)) a' x.val) l a) : (Code.region id L.toArray true).wp P Q a w := by
  refine wp_region_any hm ?_
  refine wpAny_of_R _ _ _ _ ?_
  have := wpAnyR_takes hs hQ l n (Array.replicate L.length false) a w hB h { w with drawn := w.drawn + 1 } ((Below.refl _ _).drew)
  rw [hn] at this
  simpa using this
end
end Go.Proofs.YticonpjkcocgeaaDoor

set_option linter.unusedVariables false
namespace Go.Proofs.YticonpjkcocgeaaDoor
open Go.ChangeShapes Go.WideShapes Go.ChangeAt Go.RowKit

section
variable {P : Program} {ops : Array Oper} {md : Region.Mode} {Q : Exit → Act → World → Prop} {B : Nat}
def wpAnyB (P : Program) (md : Region.Mode) (ops : Array Oper) (Q : Exit → Act → World → Prop) (B : Nat) : Nat → Array Bool → Act → World → Prop
  | 0, listed, a, w => Region.ready md ops listed = [] ∧ Q .normal a w
  | fuel + 1, listed, a, w => (Region.ready md ops listed = [] → Q .normal a w) ∧
    ∀ i ∈ Region.ready md ops listed, wpOp P ops Q i (fun a' w' => Below B w w' ∧ ∀ w2, Ext w' w2 → wpAnyB P md ops Q B fuel (listed.setIfInBounds i true) a' w2) a w
theorem wpAny_of_B : ∀ (fuel : Nat) (listed : Array Bool) (a : Act) (w : World), wpAnyB P md ops Q B fuel listed a w → wpAny P md ops Q fuel listed a w
  | 0, _, _, _, h => h
  | fuel + 1, _, _, _, h => ⟨h.1, fun i hi => wpOp_mono (fun a' w' h' => wpAny_of_B fuel _ a' w' (h'.2 _ (Ext.refl _))) (h.2 i hi)⟩
theorem below_ext {w0 w w' : World} (h : Ext w0 w) (g : Below w0.heap.size w w') : Ext w0 w' := Below.trans h g
theorem ext_below {w w' : World} (h : Ext w w') (hb : B ≤ w.heap.size) : Below B w w' := Below.mono h hb
theorem wpAnyB_first {i : Nat} {oi : Oper} {v : Value} (hi : ops[i]? = some oi) (hsel : ∀ (j : Nat) (o : Oper) cs b, ops[j]? = some o → o.op ≠ .select cs b) (hQ : ∀ c a w, Q (.panic c) (a.put oi.dst v) w → Q (.panic c) a w) (w0 : World) :
    ∀ (fuel : Nat) (listed : Array Bool) (a : Act) (wb : World), Ext w0 wb →
      (∀ j oj, ops[j]? = some oj → j ≠ i → listed.getD j true = false → (∀ e ∈ oj.after, Region.binds md e = true → e.on ≠ i) → oi.apart ops oj = true) →
      i ∈ Region.ready md ops listed → YieldsE P ops w0 oi v a → (∀ w2, Ext wb w2 → wpAnyB P md ops Q w0.heap.size fuel (listed.setIfInBounds i true) (a.put oi.dst v) w2) →
      ∀ w, Ext wb w → wpAnyB P md ops Q w0.heap.size (fuel + 1) listed a w := by
  intro fuel
  induction fuel with
  | zero =>
    intro listed a wb hwb _ hr hy H w hw
    refine ⟨fun h => (by rw [h] at hr; cases hr), fun j hj => ?_⟩
    by_cases hji : j = i
    · subst hji; exact hy.wpOp hi (Ext.trans hwb hw) fun w' hw' => ⟨ext_below hw' (Ext.trans hwb hw).size, fun w2 h2 => H w2 (Ext.trans (Ext.trans hw hw') h2)⟩
    · have := ready_mono hj hji
      rw [(H w hw).1] at this
      cases this
  | succ fuel ih =>
    intro listed a wb hwb hfree hr hy H w hw
    refine ⟨fun h => (by rw [h] at hr; cases hr), fun j hj => ?_⟩
    by_cases hji : j = i
    · subst hji; exact hy.wpOp hi (Ext.trans hwb hw) fun w' hw' => ⟨ext_below hw' (Ext.trans hwb hw).size, fun w2 h2 => H w2 (Ext.trans (Ext.trans hw hw') h2)⟩
    · have h1 := (H w hw).2 j (ready_mono hj hji)
      obtain ⟨hjun, oj, hoj, hall⟩ := mem_ready.1 hj
      have hnot : ∀ e ∈ oj.after, Region.binds md e = true → e.on ≠ i := fun e he hb heq => by
        have h1 := hall e he hb
        have h0 := (mem_ready.1 hr).1
        rw [heq] at h1
        rcases Nat.lt_or_ge i listed.size with h' | h'
        · simp [h'] at h0 h1; rw [h0] at h1; cases h1
        · simp [Array.getElem?_eq_none h'] at h1
      have h2 := wpOp_putE hoj (hfree j oj hoj hji hjun hnot) (fun cs b => hsel i oi cs b hi) (fun cs b => hsel j oj cs b hoj) hQ hy h1
      have hfree' : ∀ k ok, ops[k]? = some ok → k ≠ i → (listed.setIfInBounds j true).getD k true = false →
          (∀ e ∈ ok.after, Region.binds md e = true → e.on ≠ i) → oi.apart ops ok = true := fun k ok hk hki hun hno => by
        refine hfree k ok hk hki ?_ hno
        by_cases hjk : j = k
        · subst hjk; exact hjun
        · rw [getD_set_ne true hjk] at hun; exact hun
      refine wpOp_mono (fun a' w' h3 => ⟨h3.2.1, ih (listed.setIfInBounds j true) a' w' (below_ext (Ext.trans hwb hw) h3.2.1) hfree' (ready_mono hr (Ne.symm hji)) h3.1 (fun w2 h4 => ?_)⟩) h2
      rw [Array.setIfInBounds_comm _ _ hji]
      exact h3.2.2 w2 h4
theorem wpAnyB_takes (hs : Region.noSelect ops = true) (hQ : ∀ c a (d : Option Nat) v w, Q (.panic c) (a.put d v) w → Q (.panic c) a w) (w0 : World) :
    ∀ (l : List Nat) (fuel : Nat) (listed : Array Bool) (a : Act), takeB md ops l listed = true →
      wpE P ops w0 (fun a' => ∀ x : After w0, wpAnyB P md ops Q w0.heap.size fuel (listAll l listed) a' x.val) l a → ∀ w, Ext w0 w → wpAnyB P md ops Q w0.heap.size (l.length + fuel) listed a w
  | [], fuel, listed, a, _, h, w, hw => by
    have := h ⟨w, hw⟩
    simpa [listAll] using this
  | i :: l, fuel, listed, a, hB, h, w, hw => by
    simp only [takeB, Bool.and_eq_true] at hB
    obtain ⟨⟨hr, hf⟩, hB'⟩ := hB
    rw [List.length_cons, show l.length + 1 + fuel = (l.length + fuel) + 1 by omega]
    have hr' : i ∈ Region.ready md ops listed := by simpa using hr
    obtain ⟨_, o, ho, _⟩ := mem_ready.1 hr'
    unfold wpE at h
    rw [ho] at h
    by_cases hw' : Region.wanted o (yielded ops a.tmps) = true
    · simp only [hw', if_true] at h
      obtain ⟨v, hv, hk⟩ := h
      exact wpAnyB_first ho (Region.noSelect_spec hs) (fun c a w => hQ c a o.dst v w) w0 (l.length + fuel) listed a w0 (Ext.refl _) (Region.free_spec ho hf) hr' (.inl ⟨hw', hv⟩)
        (fun w2 h2 => wpAnyB_takes hs hQ w0 l fuel _ _ hB' hk w2 h2) w hw
    · simp only [hw'] at h
      exact wpAnyB_first ho (Region.noSelect_spec hs) (fun c a w => hQ c a o.dst undef w) w0 (l.length + fuel) listed a w0 (Ext.refl _) (Region.free_spec ho hf) hr' (.inr ⟨by simpa using hw', rfl⟩)
        (fun w2 h2 => wpAnyB_takes hs hQ w0 l fuel _ _ hB' h w2 h2) w hw
theorem wpAnyB_done {listed : Array Bool} {a : Act} {w : World} (hr : Region.ready md ops listed = []) (h : Q .normal a w) : ∀ fuel, wpAnyB P md ops Q B fuel listed a w
  | 0 => ⟨hr, h⟩
  | _ + 1 => ⟨fun _ => h, by rw [hr]; simp⟩
/-- Each of those that may come up next, one after the other. -/
def AllB (P : Program) (md : Region.Mode) (ops : Array Oper) (Q : Exit → Act → World → Prop) (B : Nat) (fuel : Nat) (listed : Array Bool) (a : Act) (w : World) (rs : List Nat) : Prop :=
  ∀ i ∈ rs, wpOp P ops Q i (fun a' w' => Below B w w' ∧ ∀ w2, Ext w' w2 → wpAnyB P md ops Q B fuel (listed.setIfInBounds i true) a' w2) a w
theorem AllB.nil {fuel : Nat} {listed : Array Bool} {a : Act} {w : World} : AllB P md ops Q B fuel listed a w [] := fun _ h => by cases h
theorem AllB.cons {fuel : Nat} {listed : Array Bool} {a : Act} {w : World} {i : Nat} {o : Oper} {rs : List Nat} (ho : ops[i]? = some o)
    (h : ∀ K' : Act → World → Prop, (∀ a w', Below B w w' → (∀ x : After w', wpAnyB P md ops Q B fuel (listed.setIfInBounds i true) a x.val) → K' a w') → if Region.wanted o (yielded ops a.tmps) = true then Oper.wp P o a w K' Q else K' (a.put o.dst undef) w)
    (hs : AllB P md ops Q B fuel listed a w rs) : AllB P md ops Q B fuel listed a w (i :: rs) := fun j hj => by
  rcases List.mem_cons.1 hj with rfl | hj
  · exact wpOp_step ho (fun K' hK' => h K' (fun a w' h1 h2 => hK' a w' ⟨h1, fun w2 h3 => h2 ⟨w2, h3⟩⟩))
  · exact hs j hj
theorem wpAnyB_ready {rs : List Nat} {fuel : Nat} {listed : Array Bool} {a : Act} {w : World} (hr : Region.ready md ops listed = rs) (hne : rs ≠ []) (h : AllB P md ops Q B fuel listed a w rs) : wpAnyB P md ops Q B (fuel + 1) listed a w :=
  ⟨fun h0 => absurd (hr ▸ h0) hne, by rw [hr]; exact h⟩
/-- The beginning: the quiet operations l first, then what is left in whatever order. -/
theorem wp_region_monoB {id : Nat} {a : Act} {w : World} {L : List Oper} (l : List Nat) (n : Nat) (hm : P.follows .mixedOrders = true) (hs : Region.noSelect L.toArray = true) (hQ : ∀ c a (d : Option Nat) v w, Q (.panic c) (a.put d v) w → Q (.panic c) a w)
    (hB : takeB .any L.toArray l (Array.replicate L.length false) = true) (hn : l.length + n = L.length)
    (h : wpE P L.toArray w (fun a' => ∀ x : After w, wpAnyB P .any L.toArray Q w.heap.size n (listAll l (Array.replicate L.length false)) a' x.val) l a) : (Code.region id L.toArray true).wp P Q a w := by
  refine wp_region_any hm ?_
  refine wpAny_of_B (B := w.heap.size) _ _ _ _ ?_
  have := wpAnyB_takes hs hQ w l n (Array.replicate L.length false) a hB h { w with drawn := w.drawn + 1 } ((Below.refl _ _).drew)
  rw [hn] at this
  simpa using this
end
end Go.Proofs.YticonpjkcocgeaaDoor

set_option linter.unusedVariables false
set_option linter.unusedSimpArgs false
namespace Go.Proofs.YticonpjkcocgeaaDoor
open Go.ChangeShapes Go.WideShapes Go.ChangeAt Go.RowKit

theorem str_eq {a b : ByteArray} (h : a.toList = b.toList) : a = b := by
  rw [ByteArray.toList_eq, ByteArray.toList_eq] at h
  cases a; cases b; simp at h; simp [h]
section
variable {u v w w' : World}
theorem eal (h : Ext u w) (o : Obj) : Ext u (w.alloc o) := Below.alloc h (Below.size h) o
theorem edr (h : Ext u w) : Ext u w.drew := Below.drew h
theorem etr (h : Ext u v) (g : Ext v w) : Ext u w := Ext.trans h g
theorem eset (h : Ext u w) {b : Nat} (hb : u.heap.size ≤ b) (o : Nat) (x : Value) : Ext u (w.setCell ⟨b, o, none⟩ x) := Below.setCell h hb x
theorem eonly {b : Nat} (h : Ext u w) (g : Only b w w') (hb : u.heap.size ≤ b) : Ext u w' := Below.only h g hb
theorem eafter (h : Ext u w) (y : After w) : Ext u y.val := etr h y.is
theorem esz (h : Ext u w) : u.heap.size ≤ w.heap.size := Below.size h
end
/-- Blocks that are written out read as lists. -/
theorem rd_cells {α : Type} {w : World} {b k : Nat} {enc : α → List Value} {xs : List α} (hk : ∀ x, (enc x).length = k) (h : CellsAt w b (xs.flatMap enc)) : Rd w (some ⟨b, 0, none⟩) k enc xs := fun _ =>
  ⟨b, 0, rfl, h.1, fun i x hi j v hj => by rw [Nat.zero_add]; exact h.2 _ _ (flat_at hk xs i j x v hi hj)⟩
/-- append of one element that lies in a block of its own. -/
theorem wp_appE {α : Type} {P : Program} {u w : World} {ops : Array Oper} {rest : List Oper} {o : Oper} {a : Act} {Q : Exit → Act → World → Prop} {e : TypeId} {k bytes : Nat} {enc : α → List Value} {v : Value} {xs : List α} {t : TypeId} {i : TypeInfo} {z : Value} {s x : Operand}
    (hk : ∀ x, (enc x).length = k) (hone : ∀ x, ∀ u ∈ enc x, u.oneCell' = true) (ht : P.underlying t = some (.slice e)) (hi : P.info? e = some i) (hz : i.zero = some z) (hsize : i.size = k) (hby : i.bytes = bytes) (hzs : z.cells.size = k) (hsz : 0 < k)
    (hgd : o.guard = none) (ho : o.op = .call { callee := .builtin .append, args := #[s, x], argTypes := #[t, t] }) (hs : a.eval s = v) (hown : OwnL w u.heap.size e k enc v xs) (hE : Ext u w) (y : α) (b : Nat) (hx : a.eval x = .slice (some ⟨b, 0, none⟩) 1 1) (hb : CellsAt w b (enc y))
    (hlen : (xs.length + 1) * bytes ≤ 140737488355328) (hlen2 : xs.length + 1 ≤ maxLen)
    (h : ∀ v' w', Hid (OwnL w' u.heap.size e k enc v' (xs ++ [y]) ∧ Ext u w' ∧ ∀ c vs, v.ownBlock ≠ some c → CellsAt w c vs → CellsAt w' c vs ∧ v'.ownBlock ≠ some c) → wpList P ops Q rest (a.put o.dst v') w') : wpList P ops Q (o :: rest) a w := by
  refine wp_app1 hk hone ht hi hz hsize hby hzs hsz hgd ho hs hown y b hx hb hlen hlen2 (esz hE) fun v' w' h1 h2 h3 => h v' w' ⟨h1, OwnL.app_below hE (esz hE) (fun b hb => (hown.lt b hb).1) h2, fun c vs hc hcs => ⟨hcs.grown h2 hc, ?_⟩⟩
  rcases h3 with h3 | h3
  · rw [h3]; exact hc
  · rw [h3]; intro e; have := hcs.1; simp at e; omega
theorem OwnL.mono {α : Type} {w : World} {b b' : Nat} {e : TypeId} {k : Nat} {enc : α → List Value} {v : Value} {xs : List α} (h : OwnL w b e k enc v xs) (hb : b' ≤ b) : OwnL w b' e k enc v xs := by
  refine ⟨h.1, ?_⟩
  rcases h.2 with h0 | ⟨g, cap, cur, rfl, h1, h2⟩
  · exact .inl h0
  · exact .inr ⟨g, cap, cur, rfl, Nat.le_trans hb h1, h2⟩
theorem OwnL.form {α : Type} {w : World} {base : Nat} {e : TypeId} {k : Nat} {enc : α → List Value} {v : Value} {xs : List α} (h : OwnL w base e k enc v xs) (h0 : 0 < xs.length) :
    ∃ g cap, v = .slice (some ⟨g, 0, none⟩) xs.length cap ∧ xs.length ≤ cap ∧ base ≤ g ∧ Own w g (xs.flatMap enc) := by
  rcases h.2 with ⟨_, h1⟩ | ⟨g, cap, cur, h1, h2, h3, h4, h5⟩
  · omega
  · subst h1
    refine ⟨g, cap, rfl, h4, h2, (World.ownsRow.lt h g rfl).2, fun j v hj => ?_, fun j => World.ownsRow.frozenAt h j⟩
    have := World.ownsRow.cells h (g := g) rfl j v hj
    rw [add_plain, Nat.zero_add] at this
    exact this
theorem CellsAt.low {w w' : World} {b : Nat} {vs : List Value} (h : CellsAt w b vs) (hb : Ext w w') : CellsAt w' b vs := h.keep hb
theorem Rd.grown {α : Type} {w w' : World} {A : Option Addr} {k : Nat} {enc : α → List Value} {xs : List α} {row : Option Nat} (h : Rd w A k enc xs) (hg : w.grownBy w' row) (hne : ∀ a, A = some a → row ≠ some a.block) : Rd w' A k enc xs := fun h0 => by
  obtain ⟨b, off, e, h1, h2⟩ := h h0
  exact ⟨b, off, e, Nat.lt_of_lt_of_le h1 hg.size, fun i x hi j v hj => (World.cell?_of_block (w := w) (a := ⟨b, off + i * k + j, none⟩) (hg.block b h1 (fun e2 => hne _ e e2.symm))).trans (h2 i x hi j v hj)⟩
theorem run_append_of_nil {P : Program} (w : World) (base : Nat) (t ty e : TypeId) (i : TypeInfo) (size : Nat) (ht : P.underlying t = some (.slice e)) (hi : P.info? e = some i)
    (v : Value) (n : Nat) (xs : List Value) (hown : w.ownsRow base e size v n xs) (c : Nat) : (Builtin.append_ #[t, t] ty #[v, .slice none 0 c]).run P w = .ok v w := by
  rcases hown.2 with ⟨rfl, rfl⟩ | ⟨g, cap, cur, rfl, _, _, hnc, _⟩
  · simp [Builtin.append_, run_underlying ht, sizeOf, typeInfo, hi, Builtin.lenOf, Builtin.firstCells]
  · simp [Builtin.append_, run_underlying ht, sizeOf, typeInfo, hi, Builtin.lenOf, Builtin.firstCells, hnc, storeCells]
theorem flat_one {α : Type} {enc : α → List Value} (hone : ∀ x, ∀ u ∈ enc x, u.oneCell' = true) (ys : List α) : ∀ u ∈ ys.flatMap enc, u.oneCell' = true := fun u hu => by
  obtain ⟨x, _, hx⟩ := List.mem_flatMap.1 hu
  exact hone x u hx
theorem flat_len' {α : Type} {enc : α → List Value} {k : Nat} (hk : ∀ x, (enc x).length = k) : ∀ ys : List α, (ys.flatMap enc).length = ys.length * k
  | [] => by simp
  | y :: ys => by rw [List.flatMap_cons, List.length_append, hk, flat_len' hk ys, List.length_cons, Nat.succ_mul]; omega
theorem flat_cells {α : Type} {w : World} {b off k : Nat} {enc : α → List Value} (hk : ∀ x, (enc x).length = k) {ys : List α} (h : ∀ i x, ys[i]? = some x → ∀ j v, (enc x)[j]? = some v → w.cell? ⟨b, off + i * k + j, none⟩ = some v) (hk0 : 0 < k) :
    ∀ j u, (ys.flatMap enc)[j]? = some u → w.cell? ((⟨b, off, none⟩ : Addr).add j) = some u := by
  intro j u hj
  rw [add_plain]
  have hl : j < ys.length * k := by have := (List.getElem?_eq_some_iff.1 hj).1; rwa [flat_len' hk] at this
  have hi : j / k < ys.length := Nat.div_lt_of_lt_mul (by rw [Nat.mul_comm]; exact hl)
  obtain ⟨x, hx⟩ : ∃ x, ys[j / k]? = some x := ⟨_, List.getElem?_eq_getElem hi⟩
  have hm : j % k < k := Nat.mod_lt _ hk0
  obtain ⟨v, hv⟩ : ∃ v, (enc x)[j % k]? = some v := ⟨_, List.getElem?_eq_getElem (by rw [hk]; exact hm)⟩
  have e := flat_at hk ys (j / k) (j % k) x v hx hv
  have e2 : j / k * k + j % k = j := by rw [Nat.mul_comm]; exact Nat.div_add_mod j k
  rw [e2, hj] at e
  cases e
  have := h _ _ hx _ _ hv
  rwa [Nat.add_assoc, e2] at this
/-- append of a list that is read elsewhere. -/
theorem wp_appL {α : Type} {P : Program} {u w : World} {ops : Array Oper} {rest : List Oper} {o : Oper} {a : Act} {Q : Exit → Act → World → Prop} {e : TypeId} {k bytes : Nat} {enc : α → List Value} {v : Value} {xs : List α} {t : TypeId} {i : TypeInfo} {z : Value} {s x : Operand}
    (hk : ∀ x, (enc x).length = k) (hone : ∀ x, ∀ u ∈ enc x, u.oneCell' = true) (ht : P.underlying t = some (.slice e)) (hi : P.info? e = some i) (hz : i.zero = some z) (hsize : i.size = k) (hby : i.bytes = bytes) (hzs : z.cells.size = k) (hsz : 0 < k)
    (hgd : o.guard = none) (ho : o.op = .call { callee := .builtin .append, args := #[s, x], argTypes := #[t, t] }) (hs : a.eval s = v) (hown : OwnL w u.heap.size e k enc v xs) (hE : Ext u w) (ys : List α) (A : Option Addr) (c : Nat) (hx : a.eval x = .slice A ys.length c) (hr : Rd w A k enc ys)
    (hlen : (xs.length + ys.length) * bytes ≤ 140737488355328) (hlen2 : xs.length + ys.length ≤ maxLen)
    (h : ∀ v' w', Hid (OwnL w' u.heap.size e k enc v' (xs ++ ys) ∧ Ext u w' ∧ w.grownBy w' v.ownBlock ∧ ∀ c, v.ownBlock ≠ some c → c < w.heap.size → v'.ownBlock ≠ some c) → wpList P ops Q rest (a.put o.dst v') w') : wpList P ops Q (o :: rest) a w := by
  have hown2 : w.ownsRow u.heap.size e k v xs.length (xs.flatMap enc) := hown
  obtain ⟨v', w', hrun, h2, h3, h4⟩ : ∃ v' w', (Builtin.append_ #[t, t] o.type #[v, .slice A ys.length c]).run P w = .ok v' w' ∧ OwnL w' u.heap.size e k enc v' (xs ++ ys) ∧ w.grownBy w' v.ownBlock ∧ (v'.ownBlock = v.ownBlock ∨ v'.ownBlock = some w.heap.size) := by
    by_cases hy : ys = []
    · subst hy
      rcases A with _ | ad
      · exact ⟨v, w, run_append_of_nil w u.heap.size t o.type e i k ht hi v _ _ hown2 c, by simpa using hown, World.grownBy.refl w _, .inl rfl⟩
      · obtain ⟨v', w', hrun, h2, h3, _, h5⟩ := run_append_own_at (P := P) w u.heap.size t o.type e i z k bytes ht hi hz hsize hby hzs hsz v xs.length _ hown2 ad 0 c [] (by simp) (fun j u hj => by simp at hj) (fun u hu => by cases hu) (by simpa using hlen2) (by simpa using hlen) (esz hE)
        exact ⟨v', w', hrun, by unfold OwnL; simpa using h2, h3, h5⟩
    · have hp : 0 < ys.length := List.length_pos_iff.2 hy
      obtain ⟨b, off, rfl, hb, hc⟩ := hr hp
      obtain ⟨v', w', hrun, h2, h3, _, h5⟩ := run_append_own_at (P := P) w u.heap.size t o.type e i z k bytes ht hi hz hsize hby hzs hsz v xs.length _ hown2 ⟨b, off, none⟩ ys.length c (ys.flatMap enc) (flat_len' hk ys) (flat_cells hk hc hsz) (flat_one hone ys) hlen2 hlen (esz hE)
      exact ⟨v', w', hrun, by unfold OwnL; rw [List.length_append, List.flatMap_append]; exact h2, h3, h5⟩
  refine wpList_plain hgd fun K hK => ?_
  unfold Oper.wp execOp
  simp only [ho, resolve, invoke, builtin, Sem.run_bind, Sem.run_pure, Result.andThen_ok, List.map_toArray, List.map_cons, List.map_nil, hs, hx, hrun]
  refine hK _ _ (h v' w' ⟨h2, OwnL.app_below hE (esz hE) (fun b hb => (hown.lt b hb).1) h3, h3, fun c hc hcs => ?_⟩)
  rcases h4 with h4 | h4
  · rw [h4]; exact hc
  · rw [h4]; intro e; injection e with e; omega
end Go.Proofs.YticonpjkcocgeaaDoor

namespace Go.Proofs.YticonpjkcocgeaaDoor
open Go.ChangeShapes Go.WideShapes Go.ChangeAt Go.RowKit

theorem laidOut : laidOutB Tryd.prog = true := by kernel_rfl

def I64 (n : Int) : Prop := -9223372036854775808 ≤ n ∧ n ≤ 9223372036854775807
theorem i64_of_wf {n : Int} (h : (Lit.int .i64 n).wf = true) : I64 n := by
  simpa [I64, Lit.wf, IntKind.min, IntKind.max, IntKind.signed, IntKind.bits] using h
theorem block_lt {w : World} {p : Addr} {v : Value} (h : w.cell? p = some v) : p.block < w.heap.size := by
  rcases Nat.lt_or_ge p.block w.heap.size with hl | hg
  · exact hl
  · rw [World.cell?, Array.getElem?_eq_none hg] at h
    simp at h

section
variable {H : Type} {enc : TypeId × Value → H} {P : Program} {w : World} {r : Reach} {b0 base : Nat} {spare : Nat → Bool} {held : Bool} {t : TypeId} {v : Value} {d : DataW H} {ps : List MemPlace}
theorem open_i64 (ht : P.underlying t = some (.int .i64)) (hv : Value.okWide P w r b0 t v) (h : DataW.Trod enc P w base spare held t v d ps) : ∃ n, v = .int .i64 n ∧ I64 n := by
  obtain ⟨n, rfl, _, _, hw⟩ := open_int ht hv h
  exact ⟨n, rfl, i64_of_wf hw⟩
theorem open_bool' (ht : P.underlying t = some .bool) (hv : Value.okWide P w r b0 t v) (h : DataW.Trod enc P w base spare held t v d ps) : ∃ b, v = .bool b := by
  obtain ⟨b, rfl, _, _⟩ := open_bool ht hv h
  exact ⟨b, rfl⟩
theorem open_islice {e : TypeId} (ht : P.underlying t = some (.slice e)) (he : P.underlying e = some (.int .i64)) (hc : P.cellsOf e = 1) (hv : Value.okWide P w r b0 t v) (h : DataW.Trod enc P w base (fun _ => true) held t v d ps) :
    ∃ A xs cap, v = .slice A (List.length xs) cap ∧ RdI w A xs ∧ xs.length ≤ maxLen ∧ ∀ k, k < xs.length → I64 (xs.getD k 0) := by
  obtain ⟨A, len, cap, rfl⟩ := okWide_slice ht hv
  obtain ⟨fuel, hf⟩ := h
  rcases open_ints ht he hc hf with ⟨hcs, _⟩ | ⟨a, l, c, zs, hcs, _, hl, hm, hz, _, hcell, hwz⟩
  · simp [Value.cells] at hcs
    obtain ⟨rfl, rfl, rfl⟩ := hcs
    exact ⟨none, [], 0, rfl, RdI.nil, by simp, fun k hk => by simp at hk⟩
  · simp [Value.cells] at hcs
    obtain ⟨rfl, rfl, rfl⟩ := hcs
    simp at hz
    have hlen : (zs.take len).length = len := by rw [List.length_take]; omega
    have hgd : ∀ k, k < len → (zs.take len).getD k 0 = zs.getD k 0 := fun k hk => by
      rw [List.getD_eq_getElem?_getD, List.getElem?_take_of_lt hk, List.getD_eq_getElem?_getD]
    refine ⟨some a, zs.take len, cap, by rw [hlen], fun h0 => ?_, by omega, fun k hk => ?_⟩
    · obtain ⟨b, off, rfl, hb⟩ := ints_at hcell (by omega)
      have := block_lt (hb 0 (by omega))
      exact ⟨b, off, rfl, this, fun k hk => by rw [hgd k (by omega)]; exact hb k (by omega)⟩
    · rw [hgd k (by omega)]
      refine i64_of_wf (hwz _ ?_)
      rw [List.getD_eq_getElem?_getD, List.getElem?_eq_getElem (by omega)]
      exact List.getElem_mem _
end
end Go.Proofs.YticonpjkcocgeaaDoor

set_option linter.unusedVariables false
set_option linter.unusedSimpArgs false
namespace Go.Proofs.YticonpjkcocgeaaDoor
open Go.ChangeShapes Go.WideShapes Go.ChangeAt Go.RowKit Go.Deep

/-- The types of the cells of a type that consists of structs, numbers, bools, strings and slices. -/
def flatFs (g : TypeId → Option (List TypeId)) : List Field → Nat → Option (List TypeId)
  | [], _ => some []
  | f :: r, off => if f.offset = off then match g f.type with
    | some l => match flatFs g r (off + l.length) with
      | some m => some (l ++ m)
      | none => none
    | none => none
    else none
def flat (P : Program) : Nat → TypeId → Option (List TypeId)
  | 0, _ => none
  | n + 1, t => match P.underlying t with
    | some (.struct fs) => match flatFs (flat P n) fs.toList 0 with
      | some l => if P.cellsOf t = l.length then some l else none
      | none => none
    | some (.int _) => if P.cellsOf t = 1 then some [t] else none
    | some .bool => if P.cellsOf t = 1 then some [t] else none
    | some .string => if P.cellsOf t = 1 then some [t] else none
    | some (.slice _) => if P.cellsOf t = 1 then some [t] else none
    | _ => none
section
variable {H : Type} {enc : TypeId × Value → H} {P : Program} {w : World} {base : Nat} {spare : Nat → Bool} {held : Bool}
def Leaf (enc : TypeId × Value → H) (P : Program) (w : World) (base : Nat) (spare : Nat → Bool) (held : Bool) (t : TypeId) (c : Value) : Prop := ∃ fuel y, DataW.trod enc P w base spare held fuel t [c] = some y
def Leaves (enc : TypeId × Value → H) (P : Program) (w : World) (base : Nat) (spare : Nat → Bool) (held : Bool) : List TypeId → List Value → Prop
  | [], [] => True
  | t :: ts, c :: cs => Leaf enc P w base spare held t c ∧ Leaves enc P w base spare held ts cs
  | _, _ => False
theorem leaves_nil {cs : List Value} (h : Leaves enc P w base spare held [] cs) : cs = [] := by cases cs with | nil => rfl | cons _ _ => exact h.elim
theorem leaves_cons {t : TypeId} {ts : List TypeId} {cs : List Value} (h : Leaves enc P w base spare held (t :: ts) cs) : ∃ c r, cs = c :: r ∧ Leaf enc P w base spare held t c ∧ Leaves enc P w base spare held ts r := by
  cases cs with
  | nil => exact h.elim
  | cons c r => exact ⟨c, r, rfl, h.1, h.2⟩
theorem leaves_append {l m : List TypeId} {a b : List Value} (h : Leaves enc P w base spare held l a) (g : Leaves enc P w base spare held m b) : Leaves enc P w base spare held (l ++ m) (a ++ b) := by
  induction l generalizing a with
  | nil => obtain rfl := leaves_nil h; exact g
  | cons t l ih => obtain ⟨c, r, rfl, h1, h2⟩ := leaves_cons h; exact ⟨h1, ih h2⟩
theorem flat_len {n : Nat} {t : TypeId} {l : List TypeId} (h : flat P n t = some l) : P.cellsOf t = l.length := by
  cases n with
  | zero => cases h
  | succ n =>
    unfold flat at h
    split at h
    · split at h
      · split at h
        · cases h; assumption
        · cases h
      · cases h
    all_goals first
      | (split at h
         · cases h; simpa using ‹_›
         · cases h)
      | cases h
theorem flat_fields {n fuel : Nat} {cs : List Value} (ih : ∀ {t : TypeId} {l : List TypeId} {cs : List Value} {x : DataW H × List MemPlace} {fuel : Nat}, flat P n t = some l → DataW.trod enc P w base spare held fuel t cs = some x → Leaves enc P w base spare held l cs) :
    ∀ (r : List Field) (off : Nat) (m : List TypeId), flatFs (flat P n) r off = some m → (∀ f ∈ r, ∃ y, DataW.trod enc P w base spare held fuel f.type ((cs.drop f.offset).take (P.cellsOf f.type)) = some y) → Leaves enc P w base spare held m ((cs.drop off).take m.length)
  | [], off, m, hm, _ => by cases hm; simp [Leaves]
  | f :: r, off, m, hm, hf => by
    unfold flatFs at hm
    split at hm
    · rename_i ho
      split at hm
      · rename_i l hl
        split at hm
        · rename_i m' hm'
          cases hm
          obtain ⟨y, hy⟩ := hf f (by simp)
          rw [flat_len hl, ho] at hy
          have h1 := ih hl hy
          have h2 := flat_fields ih r (off + l.length) m' hm' (fun g hg => hf g (by simp [hg]))
          rw [List.length_append, List.take_add, List.drop_drop]
          exact leaves_append h1 h2
        · cases hm
      · cases hm
    · cases hm
theorem flat_open : ∀ {n : Nat} {t : TypeId} {l : List TypeId} {cs : List Value} {x : DataW H × List MemPlace} {fuel : Nat}, flat P n t = some l → DataW.trod enc P w base spare held fuel t cs = some x → Leaves enc P w base spare held l cs
  | 0, _, _, _, _, _, h, _ => by cases h
  | n + 1, t, l, cs, x, fuel, h, ht => by
    have hlen := flat_len h
    unfold flat at h
    split at h
    · rename_i fs hu
      split at h
      · rename_i m hm
        split at h
        · cases h
          obtain ⟨xs, n', rfl, _, hc, hx, hall⟩ := DataW.trod_struct hu ht
          have := flat_fields (n := n) (fuel := n') (cs := cs) (fun a b => flat_open a b) fs.toList 0 _ hm (fun f hf => by
            obtain ⟨i, hi, rfl⟩ := List.getElem_of_mem hf
            have hi' : i < fs.size := by simpa using hi
            have h1 := hall i fs[i] (Array.getElem?_eq_getElem hi')
            rw [List.getElem?_eq_getElem (by omega)] at h1
            exact ⟨_, by simpa using h1⟩)
          rw [List.drop_zero, List.take_of_length_le (by omega)] at this
          exact this
        · cases h
      · cases h
    · rename_i hu
      split at h
      · cases h
        obtain ⟨k, rfl, _⟩ := DataW.trod_int hu ht
        exact ⟨⟨_, _, ht⟩, trivial⟩
      · cases h
    · rename_i hu
      split at h
      · cases h
        obtain ⟨k, rfl, _⟩ := DataW.trod_bool hu ht
        exact ⟨⟨_, _, ht⟩, trivial⟩
      · cases h
    · rename_i hu
      split at h
      · cases h
        obtain ⟨k, rfl, _⟩ := DataW.trod_string hu ht
        exact ⟨⟨_, _, ht⟩, trivial⟩
      · cases h
    · rename_i hu
      split at h
      · cases h
        rcases open_slice hu ht with ⟨rfl, _⟩ | ⟨a, len, cap, _, _, _, _, rfl, _⟩
        · exact ⟨⟨_, _, ht⟩, trivial⟩
        · exact ⟨⟨_, _, ht⟩, trivial⟩
      · cases h
    · cases h
theorem leaf_i64 {t : TypeId} {c : Value} (ht : P.underlying t = some (.int .i64)) (h : Leaf enc P w base spare held t c) : ∃ n, c = .int .i64 n ∧ I64 n := by
  obtain ⟨fuel, y, h⟩ := h
  obtain ⟨n, hc, _, hw⟩ := DataW.trod_int ht h
  cases hc
  exact ⟨n, rfl, i64_of_wf hw⟩
theorem leaf_bool {t : TypeId} {c : Value} (ht : P.underlying t = some .bool) (h : Leaf enc P w base spare held t c) : ∃ b, c = .bool b := by
  obtain ⟨fuel, y, h⟩ := h
  obtain ⟨n, hc, _⟩ := DataW.trod_bool ht h
  cases hc
  exact ⟨n, rfl⟩
theorem leaf_str {t : TypeId} {c : Value} (ht : P.underlying t = some .string) (h : Leaf enc P w base spare held t c) : ∃ s, c = .string s ∧ s.size ≤ maxLen := by
  obtain ⟨fuel, y, h⟩ := h
  obtain ⟨n, hc, _, hs⟩ := DataW.trod_string ht h
  cases hc
  exact ⟨n, rfl, hs⟩
theorem list_of {α : Type} {Q : Nat → α → Prop} : ∀ n : Nat, (∀ i, i < n → ∃ x, Q i x) → ∃ xs : List α, xs.length = n ∧ ∀ i x, xs[i]? = some x → Q i x
  | 0, _ => ⟨[], rfl, fun i x h => by simp at h⟩
  | n + 1, h => by
    obtain ⟨xs, hl, hx⟩ := list_of n (fun i hi => h i (by omega))
    obtain ⟨y, hy⟩ := h n (by omega)
    refine ⟨xs ++ [y], by simp [hl], fun i x hi => ?_⟩
    by_cases e : i < n
    · rw [List.getElem?_append_left (by omega)] at hi; exact hx i x hi
    · have : i = n := by
        have := (List.getElem?_eq_some_iff.1 hi).1
        simp at this; omega
      subst this
      rw [List.getElem?_append_right (by omega), hl] at hi
      simp at hi
      subst hi
      exact hy
theorem leaf_slice {α : Type} {en : α → List Value} {Q : α → Prop} {n : Nat} {l : List TypeId} {t e : TypeId} {c : Value} (ht : P.underlying t = some (.slice e)) (hl : flat P n e = some l) (h0 : 0 < l.length)
    (hdec : ∀ cs, Leaves enc P w base spare held l cs → ∃ x, cs = en x ∧ Q x) (h : Leaf enc P w base spare held t c) :
    ∃ (A : Option Addr) (xs : List α) (cap : Nat), c = .slice A xs.length cap ∧ Rd w A l.length en xs ∧ xs.length ≤ maxLen ∧ xs.length ≤ cap ∧ ∀ (i : Nat) (x : α), xs[i]? = some x → Q x := by
  obtain ⟨fuel, y, h⟩ := h
  rcases open_slice ht h with ⟨hc, _⟩ | ⟨a, len, cap, m, k, D, Pl, hc, _, hle, hcap, hm, _, hel⟩
  · cases hc
    exact ⟨none, [], 0, rfl, Rd.nil, by simp, by simp, fun i x hi => by simp at hi⟩
  · cases hc
    have hml : len ≤ m := by rw [hm]; split <;> omega
    obtain ⟨xs, hxl, hx⟩ := list_of (Q := fun i (x : α) => w.cells? base (a.add (i * l.length)) l.length = some (en x) ∧ Q x) len (fun i hi => by
      obtain ⟨cs', h1, h2⟩ := hel i (by omega)
      obtain ⟨x, rfl, hq⟩ := hdec cs' (flat_open hl h2)
      rw [flat_len hl] at h1
      exact ⟨x, h1, hq⟩)
    refine ⟨some a, xs, cap, by rw [hxl], fun hp => ?_, by omega, by omega, fun i x hi => (hx i x hi).2⟩
    obtain ⟨b, off, spot⟩ := a
    have hspot : spot = none := by
      obtain ⟨x, hx0⟩ : ∃ x, xs[0]? = some x := ⟨_, List.getElem?_eq_getElem hp⟩
      obtain ⟨_, h2, h3⟩ := World.cells?_some (hx 0 x hx0).1
      have h4 := h3 0 h0
      rw [List.getElem?_eq_getElem (by omega)] at h4
      simpa [Addr.add] using World.cell?_spot h4
    subst hspot
    have hcell : ∀ i x, xs[i]? = some x → ∀ j v, (en x)[j]? = some v → w.cell? ⟨b, off + i * l.length + j, none⟩ = some v := fun i x hi j v hj => by
      obtain ⟨_, h2, h3⟩ := World.cells?_some (hx i x hi).1
      have hjl : j < l.length := by have := (List.getElem?_eq_some_iff.1 hj).1; omega
      have h4 := h3 j hjl
      rw [add_plain, add_plain, hj] at h4
      exact h4
    have hb : b < w.heap.size := by
      obtain ⟨x, hx0⟩ : ∃ x, xs[0]? = some x := ⟨_, List.getElem?_eq_getElem hp⟩
      obtain ⟨_, h2, _⟩ := World.cells?_some (hx 0 x hx0).1
      exact block_lt (hcell 0 x hx0 0 _ (List.getElem?_eq_getElem (by omega)))
    exact ⟨b, off, rfl, hb, hcell⟩
theorem open_flat {r : Reach} {b0 n : Nat} {t : TypeId} {v : Value} {d : DataW H} {ps : List MemPlace} {fs : Array Field} {l : List TypeId} (hs : P.underlying t = some (.struct fs)) (hl : flat P n t = some l)
    (hv : Value.okWide P w r b0 t v) (h : DataW.Trod enc P w base spare held t v d ps) : ∃ cs : List Value, v = .agg cs.toArray ∧ Leaves enc P w base spare held l cs := by
  obtain ⟨cs, rfl, _⟩ := okWide_struct hs hv
  obtain ⟨fuel, hf⟩ := h
  have := flat_open hl hf
  exact ⟨cs.toList, by simp, by simpa [Value.cells] using this⟩
theorem open_leaf {r : Reach} {b0 n : Nat} {t e : TypeId} {v : Value} {d : DataW H} {ps : List MemPlace} (hs : P.underlying t = some (.slice e))
    (hv : Value.okWide P w r b0 t v) (h : DataW.Trod enc P w base spare held t v d ps) : Leaf enc P w base spare held t v := by
  obtain ⟨A, len, cap, rfl⟩ := okWide_slice hs hv
  obtain ⟨fuel, hf⟩ := h
  exact ⟨fuel, _, by simpa [Value.cells] using hf⟩
end
end Go.Proofs.YticonpjkcocgeaaDoor

set_option linter.unusedVariables false
set_option linter.unusedSimpArgs false
namespace Go.Proofs.YticonpjkcocgeaaDoor
open Go.ChangeShapes Go.WideShapes Go.ChangeAt Go.RowKit

theorem setN_own {b : Nat} : ∀ (vs us : List Value) (o : Nat) (w : World), Own w b us → o + vs.length ≤ us.length → Own (w.setCells b o vs) b (us.take o ++ vs ++ us.drop (o + vs.length)) ∧ Only b w (w.setCells b o vs)
  | [], us, o, w, h, _ => ⟨by simpa [World.setCells] using h, Only.refl _ _⟩
  | v :: r, us, o, w, h, ho => by
    have ho' : o < us.length := by simp at ho; omega
    obtain ⟨h1, h2⟩ := setN_own r (us.set o v) (o + 1) _ (h.set o ho' v) (by simp at ho ⊢; omega)
    refine ⟨?_, (Only.set _ _ _ _).trans h2⟩
    have e : (us.set o v).take (o + 1) ++ r ++ (us.set o v).drop (o + 1 + r.length) = us.take o ++ (v :: r) ++ us.drop (o + (v :: r).length) := by
      have e1 : (us.set o v).take (o + 1) = us.take o ++ [v] := by
        rw [List.take_succ_eq_append_getElem (by simpa using ho')]
        simp [List.take_set_of_le]
      have e2 : (us.set o v).drop (o + 1 + r.length) = us.drop (o + (v :: r).length) := by
        rw [List.drop_set_of_lt (by omega)]; congr 1; simp; omega
      rw [e1, e2]; simp
    rw [← e]; exact h1
theorem setN_at {w wt : World} {b : Nat} {us ws : List Value} (h : Own w b us) (o : Nat) (vs : List Value) (he : us.take o ++ vs ++ us.drop (o + vs.length) = ws) (ho : o + vs.length ≤ us.length) (hw : wt = w.setCells b o vs) : Own wt b ws ∧ Only b w wt := by
  subst hw he
  exact setN_own vs us o w h ho
theorem cells_add (b off j : Nat) : (⟨b, off, none⟩ : Addr).add j = ⟨b, off + j, none⟩ := by unfold Addr.add; split <;> simp_all
theorem run_stN {P : Program} {w : World} {t : TypeId} {b off : Nat} {us vs : List Value} (hn : (P.info? t).map (·.size) = some vs.length) (h1 : vs.all (·.oneCell') = true) (hown : Own w b us) (hle : off + vs.length ≤ us.length) :
    (Instr.storeAt t (.pointer (some ⟨b, off, none⟩)) (.agg vs.toArray)).run P w = .ok () (w.setCells b off vs) := by
  have hst := run_storeCells_cells (P := P) b off vs 0 w (fun j hj => by
      rw [Nat.add_zero, hown.2.1 (off + j) _ (List.getElem?_eq_getElem (by omega))]; rfl) (fun j hj => by rw [Nat.add_zero]; exact hown.2.2 _) (fun v hv => by simpa using List.all_eq_true.1 h1 v hv)
  rw [Nat.add_zero] at hst
  cases hq : P.info? t with
  | none => simp [hq] at hn
  | some i =>
    have hs : vs.length = i.size := by simp [hq] at hn; omega
    simp [Instr.storeAt, Instr.sureAddr, storeVar, sizeOf, typeInfo, hq, Value.cells, hs, hst]
theorem run_ldN {P : Program} {w : World} {t : TypeId} {b off : Nat} {fs : Array Field} {us vs : List Value} (hu : P.underlying t = some (.struct fs)) (hn : (P.info? t).map (·.size) = some vs.length) (hc : CellsAt w b us) (hv : (us.drop off).take vs.length = vs) :
    (Instr.loadAt t (.pointer (some ⟨b, off, none⟩))).run P w = .ok (.agg vs.toArray) w := by
  have hl : (loadCells ⟨b, off, none⟩ vs.length).run P w = .ok vs.toArray w :=
    run_loadCells_list (P := P) w ⟨b, off, none⟩ vs (fun j v hj => by
      rw [cells_add]
      refine hc.2 (off + j) v ?_
      have hlt : j < vs.length := (List.getElem?_eq_some_iff.1 hj).1
      rw [← hv, List.getElem?_take_of_lt hlt, List.getElem?_drop] at hj
      exact hj)
  cases hq : P.info? t with
  | none => simp [hq] at hn
  | some i =>
    have hs : i.size = vs.length := by simp [hq] at hn; omega
    have hagg : (isAgg t).run P w = .ok true w := by
      unfold isAgg
      rw [Sem.run_bind, run_underlying hu w]
      rfl
    simp [Instr.loadAt, Instr.sureAddr, loadVar, hagg, sizeOf, typeInfo, hq, hs, hl]
section
variable {P : Program} {w : World} {ops : Array Oper} {rest : List Oper} {o : Oper} {a : Act} {Q : Exit → Act → World → Prop} {x y : Operand} {b off : Nat} {us : List Value}
/-- Store of a whole struct (or of a part of a block that is one). -/
theorem wp_stN (t : TypeId) (ws vs : List Value) (hgd : o.guard = none) (ho : o.op = .store t x y) (hx : a.eval x = .pointer (some ⟨b, off, none⟩)) (hown : Own w b us) (hy : a.eval y = .agg vs.toArray)
    (hn : (P.info? t).map (·.size) = some vs.length) (h1 : vs.all (·.oneCell') = true) (hle : off + vs.length ≤ us.length) (hws : us.take off ++ vs ++ us.drop (off + vs.length) = ws)
    (h : ∀ w', Hid (Own w' b ws ∧ Only b w w') → wpList P ops Q rest (a.put o.dst undef) w') : wpList P ops Q (o :: rest) a w := by
  refine wpList_plain hgd fun K hK => ?_
  unfold Oper.wp execOp
  simp only [ho, hx, hy, Sem.run_bind, run_stN hn h1 hown hle]
  refine hK _ _ (h _ (setN_at hown off vs hws hle rfl))
/-- Load of a whole struct. -/
theorem wp_ldN (t : TypeId) (vs : List Value) {fs : Array Field} (hgd : o.guard = none) (ho : o.op = .load t x) (hx : a.eval x = .pointer (some ⟨b, off, none⟩)) (hc : CellsAt w b us) (hu : P.underlying t = some (.struct fs))
    (hn : (P.info? t).map (·.size) = some vs.length) (hv : (us.drop off).take vs.length = vs)
    (h : wpList P ops Q rest (a.put o.dst (.agg vs.toArray)) w) : wpList P ops Q (o :: rest) a w := by
  refine wpList_plain hgd fun K hK => ?_
  unfold Oper.wp execOp
  simp only [ho, hx, Sem.run_bind, Sem.run_pure, run_ldN hu hn hc hv]
  exact hK _ _ h
/-- The same as single operations. -/
theorem wpo_stN {K : Act → World → Prop} (t : TypeId) (ws vs : List Value) (ho : o.op = .store t x y) (hx : a.eval x = .pointer (some ⟨b, off, none⟩)) (hown : Own w b us) (hy : a.eval y = .agg vs.toArray)
    (hn : (P.info? t).map (·.size) = some vs.length) (h1 : vs.all (·.oneCell') = true) (hle : off + vs.length ≤ us.length) (hws : us.take off ++ vs ++ us.drop (off + vs.length) = ws)
    (h : ∀ w', Hid (Own w' b ws ∧ Only b w w') → K (a.put o.dst undef) w') : o.wp P a w K Q := by
  unfold Oper.wp execOp
  simp only [ho, hx, hy, Sem.run_bind, run_stN hn h1 hown hle]
  exact h _ (setN_at hown off vs hws hle rfl)
theorem wpo_ldN {K : Act → World → Prop} (t : TypeId) (vs : List Value) {fs : Array Field} (ho : o.op = .load t x) (hx : a.eval x = .pointer (some ⟨b, off, none⟩)) (hc : CellsAt w b us) (hu : P.underlying t = some (.struct fs))
    (hn : (P.info? t).map (·.size) = some vs.length) (hv : (us.drop off).take vs.length = vs)
    (h : K (a.put o.dst (.agg vs.toArray)) w) : o.wp P a w K Q := by
  unfold Oper.wp execOp
  simp only [ho, hx, Sem.run_bind, Sem.run_pure, run_ldN hu hn hc hv]
  exact h
end
/-! ### A small region that draws its order: every order by hand -/
section
variable {P : Program} {ops : Array Oper} {md : Region.Mode} {Q : Exit → Act → World → Prop} {fuel : Nat} {listed : Array Bool} {a : Act} {w : World}
def AllO (P : Program) (md : Region.Mode) (ops : Array Oper) (Q : Exit → Act → World → Prop) (fuel : Nat) (listed : Array Bool) (a : Act) (w : World) (rs : List Nat) : Prop :=
  ∀ i ∈ rs, wpOp P ops Q i (wpAny P md ops Q fuel (listed.setIfInBounds i true)) a w
theorem AllO.nil : AllO P md ops Q fuel listed a w [] := fun _ h => by cases h
theorem wanted_no {o : Oper} (hg : o.guard = none) (l : Nat → Option Bool) : Region.wanted o l = true := by unfold Region.wanted; rw [hg]
theorem AllO.cons {i : Nat} {o : Oper} {rs : List Nat} (ho : ops[i]? = some o) (hg : o.guard = none)
    (h : ∀ K : Act → World → Prop, (∀ a w, wpAny P md ops Q fuel (listed.setIfInBounds i true) a w → K a w) → Oper.wp P o a w K Q) (hs : AllO P md ops Q fuel listed a w rs) : AllO P md ops Q fuel listed a w (i :: rs) := fun j hj => by
  rcases List.mem_cons.1 hj with rfl | hj
  · exact wpOp_step ho (fun K' hK' => by rw [if_pos (wanted_no hg _)]; exact h K' hK')
  · exact hs j hj
theorem wpAny_go {rs : List Nat} (hr : Region.ready md ops listed = rs) (hne : rs ≠ []) (h : AllO P md ops Q fuel listed a w rs) : wpAny P md ops Q (fuel + 1) listed a w :=
  ⟨fun h0 => absurd (hr ▸ h0) hne, by rw [hr]; exact h⟩
theorem wp_region_orders {id : Nat} (n : Nat) (hn : ops.size = n) (hm : P.follows .mixedOrders = true) (h : ∀ wd, Ext w wd → wpAny P .any ops Q n (Array.replicate n false) a wd) : (Code.region id ops true).wp P Q a w :=
  wp_region_any hm (by rw [hn]; exact h _ (Below.refl _ _).drew)
theorem wpAny_end (hr : Region.ready md ops listed = []) (h : Q .normal a w) : wpAny P md ops Q 0 listed a w := ⟨hr, h⟩
end
/-! ### Results that lie in blocks -/
theorem run_lvN {P : Program} {w : World} {t : TypeId} {b : Nat} {fs : Array Field} {vs : List Value} (hu : P.underlying t = some (.struct fs)) (hn : (P.info? t).map (·.size) = some vs.length) (hc : CellsAt w b vs) :
    (loadVar t ⟨b, 0, none⟩).run P w = .ok (.agg vs.toArray) w := by
  have := run_ldN (off := 0) hu hn hc (by simp)
  simpa [Instr.loadAt, Instr.sureAddr] using this
theorem res_c {P : Program} {fn : Func} {tm : Array Value} {w : World} {a : Nat} {t : TypeId} {b : Nat} {fs : Array Field} {vs : List Value} (hr : fn.results = #[.cell a t]) (ha : tm.getD a undef = .pointer (some ⟨b, 0, none⟩))
    (hc : CellsAt w b vs) (hu : P.underlying t = some (.struct fs)) (hn : (P.info? t).map (·.size) = some vs.length) : (results fn tm).run P w = .ok (.agg vs.toArray) w := by
  have ha2 : tm[a]?.getD undef = .pointer (some ⟨b, 0, none⟩) := by rw [← ha]; simp
  simp [results, hr, ha2, asAddr, run_lvN hu hn hc]
theorem res_ct {P : Program} {fn : Func} {tm : Array Value} {w : World} {a i : Nat} {t : TypeId} {b : Nat} {fs : Array Field} {vs : List Value} {v : Value} (hr : fn.results = #[.cell a t, .tmp i]) (ha : tm.getD a undef = .pointer (some ⟨b, 0, none⟩)) (hi : tm.getD i undef = v)
    (hc : CellsAt w b vs) (hu : P.underlying t = some (.struct fs)) (hn : (P.info? t).map (·.size) = some vs.length) : (results fn tm).run P w = .ok (.tuple #[.agg vs.toArray, v]) w := by
  subst hi
  have ha2 : tm[a]?.getD undef = .pointer (some ⟨b, 0, none⟩) := by rw [← ha]; simp
  simp [results, hr, ha2, asAddr, run_lvN hu hn hc]
theorem res_cc {P : Program} {fn : Func} {tm : Array Value} {w : World} {a a' : Nat} {t t' : TypeId} {b b' : Nat} {fs fs' : Array Field} {vs vs' : List Value} (hr : fn.results = #[.cell a t, .cell a' t']) (ha : tm.getD a undef = .pointer (some ⟨b, 0, none⟩)) (ha' : tm.getD a' undef = .pointer (some ⟨b', 0, none⟩))
    (hc : CellsAt w b vs) (hu : P.underlying t = some (.struct fs)) (hn : (P.info? t).map (·.size) = some vs.length) (hc' : CellsAt w b' vs') (hu' : P.underlying t' = some (.struct fs')) (hn' : (P.info? t').map (·.size) = some vs'.length) :
    (results fn tm).run P w = .ok (.tuple #[.agg vs.toArray, .agg vs'.toArray]) w := by
  have ha2 : tm[a]?.getD undef = .pointer (some ⟨b, 0, none⟩) := by rw [← ha]; simp
  have ha3 : tm[a']?.getD undef = .pointer (some ⟨b', 0, none⟩) := by rw [← ha']; simp
  simp [results, hr, ha2, ha3, asAddr, run_lvN hu hn hc, run_lvN hu' hn' hc']
end Go.Proofs.YticonpjkcocgeaaDoor

set_option linter.unusedVariables false
set_option linter.unusedSimpArgs false
namespace Go.Proofs.YticonpjkcocgeaaDoor
open Go.ChangeShapes Go.WideShapes Go.ChangeAt Go.RowKit

section
variable {P : Program} {ops : Array Oper} {rest : List Oper} {o : Oper} {a : Act} {R : Act → Prop} {w0 : World} {x : Operand} {b off : Nat} {us : List Value}
theorem wq_ldN (t : TypeId) (vs : List Value) {fs : Array Field} (ho : o.op = .load t x) (hw : Region.wanted o (yielded ops a.tmps) = true) (hx : a.eval x = .pointer (some ⟨b, off, none⟩)) (hc : CellsAt w0 b us) (hu : P.underlying t = some (.struct fs))
    (hn : (P.info? t).map (·.size) = some vs.length) (hv : (us.drop off).take vs.length = vs)
    (h : wpQuiet P ops (fun w' => ∃ x : After w0, w' = x.val) R rest (a.put o.dst (.agg vs.toArray))) : wpQuiet P ops (fun w' => ∃ x : After w0, w' = x.val) R (o :: rest) a := by
  refine BigFrame.wpQuiet_want hw fun K hK => ⟨.agg vs.toArray, fun w hC => ?_, hK _ h⟩
  obtain ⟨y, rfl⟩ := hC
  unfold Oper.quietAt execOp
  simp only [ho, hx, Sem.run_bind, Sem.run_pure, run_ldN hu hn (hc.keep y.is) hv]
  exact ⟨rfl, rfl⟩
theorem wE_ldN {i : Nat} {l : List Nat} (t : TypeId) (vs : List Value) {fs : Array Field} (hi : ops[i]? = some o) (ho : o.op = .load t x) (hw : Region.wanted o (yielded ops a.tmps) = true) (hx : a.eval x = .pointer (some ⟨b, off, none⟩)) (hc : CellsAt w0 b us) (hu : P.underlying t = some (.struct fs))
    (hn : (P.info? t).map (·.size) = some vs.length) (hv : (us.drop off).take vs.length = vs)
    (h : wpE P ops w0 R l (a.put o.dst (.agg vs.toArray))) : wpE P ops w0 R (i :: l) a := by
  refine wpE_step hi fun K hK => ?_
  rw [if_pos hw]
  refine ⟨.agg vs.toArray, fun y => ?_, hK _ h⟩
  unfold Oper.quietAt execOp
  simp only [ho, hx, Sem.run_bind, Sem.run_pure, run_ldN hu hn (hc.keep y.is) hv]
  exact ⟨rfl, rfl⟩
end
end Go.Proofs.YticonpjkcocgeaaDoor
