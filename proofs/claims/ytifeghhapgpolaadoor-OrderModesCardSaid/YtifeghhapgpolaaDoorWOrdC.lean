/- Walks: the comparison of orders, the library's stable sort of few orders. -/
import Derived.Test.YtifeghhapgpolaaDoorWOrdB
set_option linter.unusedVariables false
set_option linter.unusedSimpArgs false
namespace Go.Proofs.YtifeghhapgpolaaDoor
open Go.ChangeShapes Go.WideShapes Go.ChangeAt Go.RowKit Go.Sort
open Sg

theorem rdi_cells {w : World} {b : Nat} {xs : List Int} (h : CellsAt w b (xs.map (Value.int .i64))) : RdI w (some ⟨b, 0, none⟩) xs := fun _ =>
  ⟨b, 0, rfl, h.1, fun k hk => by
    rw [Nat.zero_add]
    refine h.2 k _ ?_
    rw [List.getElem?_map, List.getElem?_eq_getElem hk]
    simp [List.getD_eq_getElem?_getD, hk]⟩
theorem wp_tail_drawn {P : Program} {id : Nat} {Q : Exit → Act → World → Prop} {a : Act} {w : World} {l : List Oper} (n : Nat) (hm : P.follows .mixedOrders = true) (hB : Region.lexTailB .any l.toArray n = true)
    (h : wpQuiet P l.toArray (fun w' => ∃ n, w' = w.drewN n) (fun a' => ∀ w', (∃ n, w' = w.drewN n) → wpList P l.toArray Q (l.drop n) a' w') (l.take n) a) : (Code.region id l.toArray true).wp P Q a w :=
  region_tail n hm hB ⟨1, rfl⟩ h
theorem grow3 (w : World) (a b c : Obj) (n : Nat) : (((w.alloc a).alloc b).drewN n).alloc c = grow (w.drewN n) #[a, b, c] := by
  rw [alloc_eq_grow, alloc_eq_grow, alloc_eq_grow]
  show grow (grow (grow (w.drewN n) _) _) _ = _
  rw [grow_grow, grow_grow]
  rfl
def cmpI (x y : Int) : Int := Lib.compareInt x y
theorem comparei_any (x y : Int) (w : World) : Calls Tryd.prog 16 #[.int .i64 x, .int .i64 y] w fun e w' => e = .returned (.int .i64 (cmpI x y)) ∧ w = w' := compare_any x y w
set_option maxHeartbeats 2000000 in
theorem cmpf_any (a b : Odr) (w : World) : Calls Tryd.prog 14 #[.agg #[.int .i64 a.train, .int .i64 a.kind, .int .i64 a.until_], .agg #[.int .i64 b.train, .int .i64 b.kind, .int .i64 b.until_]] w fun e w' => e = .returned (.int .i64 (cmpO a b)) ∧ ∃ q os', w' = grow (w.drewN q) os' := by
  have HE : Hid (cmpO a b = orV [cmpI a.train b.train, cmpI a.kind b.kind]) := rfl
  go_enter Tryd.func14, Tryd.ntmps14
  go_wp2_with fail
  refine wp_tail_drawn 10 (by kernel_rfl) (by kernel_rfl) ?_
  simp only [List.take_succ_cons, List.take_zero, List.drop_succ_cons, List.drop_zero]
  iterate 10 (go_big_quiet_step ((go_at_call 16; exact quiet_same (comparei_any _ _ _))))
  refine wpQuiet_nil ?_
  rintro _ ⟨n, rfl⟩
  go_wp2_with (go_at_call 15; refine (or_any (some ⟨_, 0, none⟩) [cmpI a.train b.train, cmpI a.kind b.kind] 2 _ (by unfold maxLen; simp) (rdi_cells (CellsAt.new (by simp)))).mono ?_; rintro e w' ⟨rfl, rfl⟩)
  go_ret
  exact ⟨ret_int HE.out.symm, n, _, grow3 _ _ _ _ _⟩
def renO : Go.Shelf.Ren := ⟨fun | 20 => 19 | n => n, fun | 0 => 0 | 3 => 3 | 4 => 4 | 22 => 29 | 24 => 34 | 25 => 41 | n => n, fun n => n⟩
theorem layO : SlLaysF0.n20 Tryd.prog renO :=
  { mixed := by kernel_rfl
    f20 := ⟨Tryd.f19.name, by decide, Tryd.func19.trans (congrArg some (by kernel_rfl))⟩
    t0 := Tryd.underlying0
    a0 := Tryd.isAgg0
    z0 := Tryd.sizeOf0
    v0 := Tryd.zeroValue0
    t3 := Tryd.underlying3
    a3 := Tryd.isAgg3
    z3 := Tryd.sizeOf3
    v3 := Tryd.zeroValue3
    t4 := Tryd.underlying4
    a4 := Tryd.isAgg4
    z4 := Tryd.sizeOf4
    v4 := Tryd.zeroValue4
    t22 := Tryd.underlying29
    a22 := Tryd.isAgg29
    z22 := Tryd.sizeOf29
    v22 := Tryd.zeroValue29
    t25 := Tryd.underlying41
    a25 := Tryd.isAgg41
    z25 := Tryd.sizeOf41
    v25 := Tryd.zeroValue41 }
theorem holdsK_own {α : Type} [Inhabited α] {w : World} {g k : Nat} {enc : α → List Value} (hk : ∀ x, (enc x).length = k) {l : List α} (h : Own w g (l.flatMap enc)) : HoldsK enc k w g 0 l.toArray := by
  intro t ht
  rw [size_flatK] at ht
  rw [get_flatK _ _ _ _ ht, Nat.zero_add]
  have hk0 : 0 < k := by
    rcases Nat.eq_zero_or_pos k with h0 | h0
    · subst h0; simp at ht
    · exact h0
  have hi : t / k < l.length := Nat.div_lt_of_lt_mul (by simp at ht; rw [Nat.mul_comm]; exact ht)
  obtain ⟨x, hx⟩ : ∃ x, l[t / k]? = some x := ⟨_, List.getElem?_eq_getElem hi⟩
  have hm : t % k < k := Nat.mod_lt _ hk0
  obtain ⟨v, hv⟩ : ∃ v, (enc x)[t % k]? = some v := ⟨_, List.getElem?_eq_getElem (by rw [hk]; exact hm)⟩
  have e := flat_at hk l (t / k) (t % k) x v hx hv
  have e2 : t / k * k + t % k = t := by rw [Nat.mul_comm]; exact Nat.div_add_mod t k
  rw [e2] at e
  have e3 : l.toArray[t / k]! = x := by
    obtain ⟨h1, rfl⟩ := List.getElem?_eq_some_iff.1 hx
    simp [h1]
  have e4 : (enc x)[t % k]! = v := by
    obtain ⟨h1, rfl⟩ := List.getElem?_eq_some_iff.1 hv
    simp [h1]
  rw [e3, e4]
  exact ⟨h.2.1 t v e, h.2.2 t⟩
theorem rd_holdsK {α : Type} [Inhabited α] {w : World} {g k : Nat} {enc : α → List Value} (hk : ∀ x, (enc x).length = k) {l : List α} (hg : g < w.heap.size) (h : HoldsK enc k w g 0 l.toArray) : Rd w (some ⟨g, 0, none⟩) k enc l := fun h0 =>
  ⟨g, 0, rfl, hg, fun i x hi j v hj => by
    obtain ⟨h1, rfl⟩ := List.getElem?_eq_some_iff.1 hi
    obtain ⟨h2, rfl⟩ := List.getElem?_eq_some_iff.1 hj
    have := (h.cell (i := i) (c := j) (by simpa using h1) (by rw [← hk l[i]]; exact h2)).1
    rw [this]
    simp [h1, h2]⟩
theorem sort_below {α : Type} [Inhabited α] {enc : α → List Value} {k : Nat} {w : World} {blk off n : Nat} {d : Array α} {os : Array Obj} (hb : blk < w.heap.size) : Below blk w (sortWorldK enc k w blk off n d os) := by
  refine ⟨rfl, rfl, rfl, size_sortWorldK_c enc k w blk off n d os, fun j hj => ?_⟩
  have hs : ((putRowK enc k (Sort.ahead w n) blk off d)).heap.size = w.heap.size := size_putRow id _ _ _ _
  unfold sortWorldK
  rw [heap_grow_old _ _ (by rw [hs]; omega)]
  show ((Sort.ahead w n).heap.modify blk _)[j]? = w.heap[j]?
  rw [Array.getElem?_modify, if_neg (by omega)]
  rfl
/-- The library's insertion sort of orders in a block of the call's own. -/
theorem isort_any (g cap : Nat) (l : List Odr) (w : World) (hO : Own w g (l.flatMap Oc)) (hn : l.length ≤ 1000000) :
    Calls Tryd.prog 19 #[.slice (some ⟨g, 0, none⟩) l.length cap, .int .i64 0, .int .i64 l.length, .func (.func 14) #[] #[]] w fun e w' => e = .returned (.tuple #[]) ∧ Rd w' (some ⟨g, 0, none⟩) 3 Oc (sortO l) ∧ Below g w w' := by
  have eg : ∀ args w, (callFunc 14 args).run Tryd.prog w = .ok (.enter 14 args) w := enters_of Tryd.func14 (by kernel_rfl) rfl
  have hH := holdsK_own Oc_len hO
  have h := AnyQ.insertionSortCmpFunc layO 3 Tryd.isAgg34 Tryd.sizeOf34 Oc Oc_len Oc_one cmpO 14 #[] g 0 cap 0 l.length l.toArray w eg (fun _ _ _ _ x y => cmpf_any x y _) hH hO.1 (Nat.zero_le _) (by simp) (by simp; omega)
  rw [ltOf_cmpO, insertionSort_is] at h
  have e : l.toArray.size = l.length := by simp
  rw [e] at h
  refine h.mono fun ee w' ⟨he, n, os, hw⟩ => ⟨he, ?_, ?_⟩
  · subst hw
    refine rd_holdsK Oc_len (Nat.lt_of_lt_of_le hO.1 (size_sortWorldK_c Oc 3 w g 0 n _ os)) (holdsK_sortWorldK_c Oc 3 w g 0 l.toArray _ n os hH hO.1 (by simp [sortO_len]))
  · subst hw
    exact sort_below hO.1
set_option maxHeartbeats 2000000 in
theorem stable_any (g cap : Nat) (l : List Odr) (w : World) (hO : Own w g (l.flatMap Oc)) (hn : l.length < 20) :
    Calls Tryd.prog 17 #[.slice (some ⟨g, 0, none⟩) l.length cap, .int .i64 l.length, .func (.func 14) #[] #[]] w fun e w' => e = .returned (.tuple #[]) ∧ Rd w' (some ⟨g, 0, none⟩) 3 Oc (sortO l) ∧ Below g w w' := by
  have HO := Lib.hid hO
  clear hO
  go_enter Tryd.func17, Tryd.ntmps17
  go_wp2_with fail
  go_loopg [7, 8] 0 (fun gg b c wr => b = .int .i64 0 ∧ c = .int .i64 20 ∧ wr = w)
  case atStart => exact ⟨rfl, rfl, rfl⟩
  case round =>
    obtain ⟨rfl, rfl, rfl⟩ := hrel
    have hd : decide ((20 : Int) ≤ (l.length : Int)) = false := decide_eq_false (by omega)
    go_wp2_with (go_at_call 19; refine (isort_any g cap l _ HO.out (by omega)).mono ?_; rintro e w2 ⟨rfl, hr2, hb2⟩; have HR2 := Lib.hid hr2; have HB2 := Lib.hid hb2; clear hr2 hb2)
    go_loopg [6] 0 (fun gg a wr => a = .int .i64 20 ∧ wr = w2)
    case atStart => exact ⟨rfl, rfl⟩
    case round =>
      obtain ⟨rfl, rfl⟩ := hrel
      have hd2 : decide ((20 : Int) < (l.length : Int)) = false := decide_eq_false (by omega)
      go_wp2
      go_end0
      exact ⟨rfl, HR2.out, HB2.out⟩
theorem sorts_any (g cap : Nat) (l : List Odr) (w : World) (hO : Own w g (l.flatMap Oc)) (hn : l.length < 20) :
    Calls Tryd.prog 13 #[.slice (some ⟨g, 0, none⟩) l.length cap, .func (.func 14) #[] #[]] w fun e w' => e = .returned (.tuple #[]) ∧ Rd w' (some ⟨g, 0, none⟩) 3 Oc (sortO l) ∧ Below g w w' := by
  have HO := Lib.hid hO
  clear hO
  go_enter Tryd.func13, Tryd.ntmps13
  go_wp2_with (go_at_call 17; refine (stable_any g cap l _ HO.out hn).mono ?_; rintro e w2 ⟨rfl, hr2, hb2⟩; have HR2 := Lib.hid hr2; have HB2 := Lib.hid hb2; clear hr2 hb2)
  go_end0
  exact ⟨rfl, HR2.out, HB2.out⟩
end Go.Proofs.YtifeghhapgpolaaDoor
