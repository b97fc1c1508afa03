/- Walks: the comparison of passed balises, the library's stable sort of few of them. -/
import Derived.Test.YticonpjkcocgeaaDoorPAll
import Derived.Test.YticonpjkcocgeaaDoorTUni
import Derived.Test.YticonpjkcocgeaaDoorKAll
import Derived.Shelf.SlSortCmp.InsertionK
set_option linter.unusedVariables false
set_option linter.unusedSimpArgs false
namespace Go.Proofs.YticonpjkcocgeaaDoor
open Go.ChangeShapes Go.WideShapes Go.ChangeAt Go.RowKit Go.Sort
open Sg

def Pc (s : Pas) : List Value := [.int .i64 s.place, .int .i64 s.id]
theorem Pc_len (s : Pas) : (Pc s).length = 2 := rfl
theorem Pc_one (s : Pas) : ∀ u ∈ Pc s, u.oneCell' = true := by intro u hu; simp [Pc] at hu; rcases hu with rfl | rfl <;> rfl
theorem rd_pas {w wr : World} {A : Option Addr} {p : List Pas} {k : Nat} (h : Rd w A 2 Pc p) (hb : Ext w wr) (hk : k < p.length) :
    ∃ b off s, A = some ⟨b, off, none⟩ ∧ p[k]? = some s ∧ b < wr.heap.size ∧ wr.cell? ⟨b, off + k * 2, none⟩ = some (.int .i64 s.place) ∧ wr.cell? ⟨b, off + k * 2 + 1, none⟩ = some (.int .i64 s.id) := by
  obtain ⟨b, off, rfl, h1, h2⟩ := h.keep hb (by omega)
  obtain ⟨s, hs⟩ : ∃ s, p[k]? = some s := ⟨_, List.getElem?_eq_getElem hk⟩
  exact ⟨b, off, s, rfl, hs, h1, h2 k s hs 0 _ rfl, h2 k s hs 1 _ rfl⟩

theorem compare_any (x y : Int) (w : World) : Calls Tryd.prog 38 #[.int .i64 x, .int .i64 y] w fun e w' => e = .returned (.int .i64 (Lib.compareInt x y)) ∧ w = w' := by
  have n1 : (x != x) = false := by simp
  have n2 : (y != y) = false := by simp
  by_cases h1 : x < y
  · have HE : Hid (Lib.compareInt x y = -1) := by show _ = _; unfold Lib.compareInt; rw [if_pos h1]
    go_enter Tryd.func38, Tryd.ntmps38
    go_wp2
    go_ret
    exact ⟨ret_int HE.out.symm, rfl⟩
  by_cases h2 : y < x
  · have HE : Hid (Lib.compareInt x y = 1) := by show _ = _; unfold Lib.compareInt; rw [if_neg h1, if_pos h2]
    go_enter Tryd.func38, Tryd.ntmps38
    go_wp2
    go_ret
    exact ⟨ret_int HE.out.symm, rfl⟩
  · have HE : Hid (Lib.compareInt x y = 0) := by show _ = _; unfold Lib.compareInt; rw [if_neg h1, if_neg h2]
    go_enter Tryd.func38, Tryd.ntmps38
    go_wp2
    go_ret
    exact ⟨ret_int HE.out.symm, rfl⟩
def orV : List Int → Int
  | [] => 0
  | x :: r => if x = 0 then orV r else x
theorem orV_at : ∀ {l : List Int} {k : Nat} {x : Int}, l[k]? = some x → x ≠ 0 → (∀ (i : Nat) y, i < k → l[i]? = some y → y = 0) → orV l = x
  | [], _, _, h, _, _ => by simp at h
  | y :: ys, 0, x, h, h0, _ => by simp at h; subst h; simp [orV, h0]
  | y :: ys, k + 1, x, h, h0, hn => by
    have := hn 0 y (by omega) (by simp)
    subst this
    show (if (0 : Int) = 0 then orV ys else 0) = x
    rw [if_pos rfl]
    exact orV_at (k := k) (by simpa using h) h0 (fun i z hi hz => hn (i + 1) z (by omega) (by simpa using hz))
theorem orV_zero : ∀ {l : List Int}, (∀ (i : Nat) y, l[i]? = some y → y = 0) → orV l = 0
  | [], _ => rfl
  | y :: ys, hn => by
    have := hn 0 y (by simp)
    subst this
    show (if (0 : Int) = 0 then orV ys else 0) = 0
    rw [if_pos rfl]
    exact orV_zero fun i z hz => hn (i + 1) z (by simpa using hz)
set_option maxHeartbeats 2000000 in
theorem or_any (A : Option Addr) (xs : List Int) (c : Nat) (w : World) (hm : xs.length ≤ maxLen) (hr : RdI w A xs) :
    Calls Tryd.prog 37 #[.slice A xs.length c] w fun e w' => e = .returned (.int .i64 (orV xs)) ∧ w = w' := by
  unfold maxLen at hm
  have HR := Lib.hid hr
  clear hr
  go_enter Tryd.func37, Tryd.ntmps37
  go_wp2
  go_loopg [8] xs.length (fun g i wr => ∃ j : Nat, i = .int .i64 j ∧ j ≤ xs.length ∧ g = xs.length - j ∧ wr = w ∧ Hid (∀ (i : Nat) y, i < j → xs[i]? = some y → y = 0))
  case atStart => exact ⟨0, rfl, by omega, rfl, rfl, fun i y h => absurd h (by omega)⟩
  case round =>
    obtain ⟨j, rfl, hj, hg, rfl, H⟩ := hrel
    have HG := Lib.hid hg
    clear hg
    by_cases hlt : j < xs.length
    · obtain ⟨b, off, rfl, hb, hc⟩ := HR.out (by omega)
      have c0 := hc j hlt
      obtain ⟨x, hx⟩ : ∃ x, xs[j]? = some x := ⟨_, List.getElem?_eq_getElem hlt⟩
      have e : xs.getD j 0 = x := by rw [List.getD_eq_getElem?_getD, hx]; rfl
      rw [e] at c0
      clear hc e
      by_cases h0 : x = 0
      · have HN : Hid (∀ (i : Nat) y, i < j + 1 → xs[i]? = some y → y = 0) := fun i y hi hy => by
          by_cases e : i = j
          · subst e; rw [hx] at hy; cases hy; exact h0
          · exact H.out i y (by omega) hy
        have q0 : (x != 0) = false := by simp [h0]
        clear hx h0
        go_wp2
        go_roundg (xs.length - (j + 1))
        case measure => have := HG.out; omega
        case rel => exact ⟨j + 1, by go_num, by omega, rfl, rfl, HN.out⟩
      · have HE : Hid (orV xs = x) := orV_at hx h0 H.out
        have q0 : (x != 0) = true := by simp [h0]
        clear hx h0
        go_wp2
        go_ret
        exact ⟨ret_int HE.out.symm, rfl⟩
    · have HE : Hid (orV xs = 0) := orV_zero fun i y hy => H.out i y (by have := (List.getElem?_eq_some_iff.1 hy).1; omega) hy
      go_wp2
      go_ret
      exact ⟨ret_int HE.out.symm, rfl⟩
/-- What the comparison yields. -/
def cmpP (a b : Pas) : Int := orV [Lib.compareInt a.place b.place, Lib.compareInt a.id b.id]
theorem ltOf_cmpP : ltOf cmpP = befP := by
  funext a b
  unfold ltOf cmpP
  cases h : befP a b
  · rw [befP_false] at h
    refine decide_eq_false ?_
    unfold orV orV orV Lib.compareInt
    (repeat' split) <;> omega
  · rw [befP_true] at h
    refine decide_eq_true ?_
    unfold orV orV orV Lib.compareInt
    (repeat' split) <;> omega

theorem rdi_cells {w : World} {b : Nat} {xs : List Int} (h : CellsAt w b (xs.map (Value.int .i64))) : RdI w (some ⟨b, 0, none⟩) xs := fun _ =>
  ⟨b, 0, rfl, h.1, fun k hk => by
    rw [Nat.zero_add]
    refine h.2 k _ ?_
    rw [List.getElem?_map, List.getElem?_eq_getElem hk]
    simp [List.getD_eq_getElem?_getD, hk]⟩
theorem wp_tail_drawn {P : Program} {id : Nat} {Q : Exit → Act → World → Prop} {a : Act} {w : World} {l : List Oper} (n : Nat) (hm : P.follows .mixedOrders = true) (hB : Region.lexTailB .any l.toArray n = true)
    (h : wpQuiet P l.toArray (fun w' => ∃ n, w' = w.drewN n) (fun a' => ∀ w', (∃ n, w' = w.drewN n) → wpList P l.toArray Q (l.drop n) a' w') (l.take n) a) : (Code.region id l.toArray true).wp P Q a w :=
  region_tail n hm hB ⟨1, rfl⟩ h
theorem grow3 (w : World) (a b c : Obj) (n : Nat) : (((w.alloc a).alloc b).drewN n).alloc c = grow (w.drewN n) #[a, b, c] := by
  rw [alloc_eq_grow, alloc_eq_grow, alloc_eq_grow]
  show grow (grow (grow (w.drewN n) _) _) _ = _
  rw [grow_grow, grow_grow]
  rfl
def cmpI (x y : Int) : Int := Lib.compareInt x y
theorem comparei_any (x y : Int) (w : World) : Calls Tryd.prog 38 #[.int .i64 x, .int .i64 y] w fun e w' => e = .returned (.int .i64 (cmpI x y)) ∧ w = w' := compare_any x y w
set_option maxHeartbeats 2000000 in
theorem cmpf_any (a b : Pas) (w : World) : Calls Tryd.prog 36 #[.agg #[.int .i64 a.place, .int .i64 a.id], .agg #[.int .i64 b.place, .int .i64 b.id]] w fun e w' => e = .returned (.int .i64 (cmpP a b)) ∧ ∃ q os', w' = grow (w.drewN q) os' := by
  have HE : Hid (cmpP a b = orV [cmpI a.place b.place, cmpI a.id b.id]) := rfl
  go_enter Tryd.func36, Tryd.ntmps36
  go_wp2_with fail
  refine wp_tail_drawn 10 (by kernel_rfl) (by kernel_rfl) ?_
  simp only [List.take_succ_cons, List.take_zero, List.drop_succ_cons, List.drop_zero]
  iterate 10 (go_big_quiet_step ((go_at_call 38; exact quiet_same (comparei_any _ _ _))))
  refine wpQuiet_nil ?_
  rintro _ ⟨n, rfl⟩
  go_wp2_with (go_at_call 37; refine (or_any (some ⟨_, 0, none⟩) [cmpI a.place b.place, cmpI a.id b.id] 2 _ (by unfold maxLen; simp) (rdi_cells (CellsAt.new (by simp)))).mono ?_; rintro e w' ⟨rfl, rfl⟩)
  go_ret
  exact ⟨ret_int HE.out.symm, n, _, grow3 _ _ _ _ _⟩
def renP : Go.Shelf.Ren := ⟨fun | 20 => 93 | n => n, fun | 0 => 0 | 3 => 3 | 4 => 4 | 22 => 84 | 24 => 90 | 25 => 93 | n => n, fun n => n⟩
theorem layP : SlLaysF0.n20 Tryd.prog renP :=
  { mixed := by kernel_rfl
    f20 := ⟨Tryd.f93.name, by decide, Tryd.func93.trans (congrArg some (by kernel_rfl))⟩
    t0 := Tryd.underlying0
    a0 := Tryd.isAgg0
    z0 := Tryd.sizeOf0
    v0 := Tryd.zeroValue0
    t3 := Tryd.underlying3
    a3 := Tryd.isAgg3
    z3 := Tryd.sizeOf3
    v3 := Tryd.zeroValue3
    t4 := Tryd.underlying4
    a4 := Tryd.isAgg4
    z4 := Tryd.sizeOf4
    v4 := Tryd.zeroValue4
    t22 := Tryd.underlying84
    a22 := Tryd.isAgg84
    z22 := Tryd.sizeOf84
    v22 := Tryd.zeroValue84
    t25 := Tryd.underlying93
    a25 := Tryd.isAgg93
    z25 := Tryd.sizeOf93
    v25 := Tryd.zeroValue93 }
theorem holdsK_own {α : Type} [Inhabited α] {w : World} {g k : Nat} {enc : α → List Value} (hk : ∀ x, (enc x).length = k) {l : List α} (h : Own w g (l.flatMap enc)) : HoldsK enc k w g 0 l.toArray := by
  intro t ht
  rw [size_flatK] at ht
  rw [get_flatK _ _ _ _ ht, Nat.zero_add]
  have hk0 : 0 < k := by
    rcases Nat.eq_zero_or_pos k with h0 | h0
    · subst h0; simp at ht
    · exact h0
  have hi : t / k < l.length := Nat.div_lt_of_lt_mul (by simp at ht; rw [Nat.mul_comm]; exact ht)
  obtain ⟨x, hx⟩ : ∃ x, l[t / k]? = some x := ⟨_, List.getElem?_eq_getElem hi⟩
  have hm : t % k < k := Nat.mod_lt _ hk0
  obtain ⟨v, hv⟩ : ∃ v, (enc x)[t % k]? = some v := ⟨_, List.getElem?_eq_getElem (by rw [hk]; exact hm)⟩
  have e := flat_at hk l (t / k) (t % k) x v hx hv
  have e2 : t / k * k + t % k = t := by rw [Nat.mul_comm]; exact Nat.div_add_mod t k
  rw [e2] at e
  have e3 : l.toArray[t / k]! = x := by
    obtain ⟨h1, rfl⟩ := List.getElem?_eq_some_iff.1 hx
    simp [h1]
  have e4 : (enc x)[t % k]! = v := by
    obtain ⟨h1, rfl⟩ := List.getElem?_eq_some_iff.1 hv
    simp [h1]
  rw [e3, e4]
  exact ⟨h.2.1 t v e, h.2.2 t⟩
theorem rd_holdsK {α : Type} [Inhabited α] {w : World} {g k : Nat} {enc : α → List Value} (hk : ∀ x, (enc x).length = k) {l : List α} (hg : g < w.heap.size) (h : HoldsK enc k w g 0 l.toArray) : Rd w (some ⟨g, 0, none⟩) k enc l := fun h0 =>
  ⟨g, 0, rfl, hg, fun i x hi j v hj => by
    obtain ⟨h1, rfl⟩ := List.getElem?_eq_some_iff.1 hi
    obtain ⟨h2, rfl⟩ := List.getElem?_eq_some_iff.1 hj
    have := (h.cell (i := i) (c := j) (by simpa using h1) (by rw [← hk l[i]]; exact h2)).1
    rw [this]
    simp [h1, h2]⟩
theorem sort_below {α : Type} [Inhabited α] {enc : α → List Value} {k : Nat} {w : World} {blk off n : Nat} {d : Array α} {os : Array Obj} (hb : blk < w.heap.size) : Below blk w (sortWorldK enc k w blk off n d os) := by
  refine ⟨rfl, rfl, rfl, size_sortWorldK_c enc k w blk off n d os, fun j hj => ?_⟩
  have hs : ((putRowK enc k (Sort.ahead w n) blk off d)).heap.size = w.heap.size := size_putRow id _ _ _ _
  unfold sortWorldK
  rw [heap_grow_old _ _ (by rw [hs]; omega)]
  show ((Sort.ahead w n).heap.modify blk _)[j]? = w.heap[j]?
  rw [Array.getElem?_modify, if_neg (by omega)]
  rfl
/-- The library's insertion sort of orders in a block of the call's own. -/
theorem isort_any (g cap : Nat) (l : List Pas) (w : World) (hO : Own w g (l.flatMap Pc)) (hn : l.length ≤ 1000000) :
    Calls Tryd.prog 93 #[.slice (some ⟨g, 0, none⟩) l.length cap, .int .i64 0, .int .i64 l.length, .func (.func 36) #[] #[]] w fun e w' => e = .returned (.tuple #[]) ∧ Rd w' (some ⟨g, 0, none⟩) 2 Pc (sortP l) ∧ Below g w w' := by
  have eg : ∀ args w, (callFunc 36 args).run Tryd.prog w = .ok (.enter 36 args) w := enters_of Tryd.func36 (by kernel_rfl) rfl
  have hH := holdsK_own Pc_len hO
  have h := AnyQ.insertionSortCmpFunc layP 2 Tryd.isAgg90 Tryd.sizeOf90 Pc Pc_len Pc_one cmpP 36 #[] g 0 cap 0 l.length l.toArray w eg (fun _ _ _ _ x y => cmpf_any x y _) hH hO.1 (Nat.zero_le _) (by simp) (by simp; omega)
  rw [ltOf_cmpP, insertionSort_isP] at h
  have e : l.toArray.size = l.length := by simp
  rw [e] at h
  refine h.mono fun ee w' ⟨he, n, os, hw⟩ => ⟨he, ?_, ?_⟩
  · subst hw
    refine rd_holdsK Pc_len (Nat.lt_of_lt_of_le hO.1 (size_sortWorldK_c Pc 2 w g 0 n _ os)) (holdsK_sortWorldK_c Pc 2 w g 0 l.toArray _ n os hH hO.1 (by simp [sortP_len]))
  · subst hw
    exact sort_below hO.1
set_option maxHeartbeats 2000000 in
theorem stable_any (g cap : Nat) (l : List Pas) (w : World) (hO : Own w g (l.flatMap Pc)) (hn : l.length < 20) :
    Calls Tryd.prog 65 #[.slice (some ⟨g, 0, none⟩) l.length cap, .int .i64 l.length, .func (.func 36) #[] #[]] w fun e w' => e = .returned (.tuple #[]) ∧ Rd w' (some ⟨g, 0, none⟩) 2 Pc (sortP l) ∧ Below g w w' := by
  have HO := Lib.hid hO
  clear hO
  go_enter Tryd.func65, Tryd.ntmps65
  go_wp2_with fail
  go_loopg [7, 8] 0 (fun gg b c wr => b = .int .i64 0 ∧ c = .int .i64 20 ∧ wr = w)
  case atStart => exact ⟨rfl, rfl, rfl⟩
  case round =>
    obtain ⟨rfl, rfl, rfl⟩ := hrel
    have hd : decide ((20 : Int) ≤ (l.length : Int)) = false := decide_eq_false (by omega)
    go_wp2_with (go_at_call 93; refine (isort_any g cap l _ HO.out (by omega)).mono ?_; rintro e w2 ⟨rfl, hr2, hb2⟩; have HR2 := Lib.hid hr2; have HB2 := Lib.hid hb2; clear hr2 hb2)
    go_loopg [6] 0 (fun gg a wr => a = .int .i64 20 ∧ wr = w2)
    case atStart => exact ⟨rfl, rfl⟩
    case round =>
      obtain ⟨rfl, rfl⟩ := hrel
      have hd2 : decide ((20 : Int) < (l.length : Int)) = false := decide_eq_false (by omega)
      go_wp2
      go_end0
      exact ⟨rfl, HR2.out, HB2.out⟩
theorem sorts_any (g cap : Nat) (l : List Pas) (w : World) (hO : Own w g (l.flatMap Pc)) (hn : l.length < 20) :
    Calls Tryd.prog 35 #[.slice (some ⟨g, 0, none⟩) l.length cap, .func (.func 36) #[] #[]] w fun e w' => e = .returned (.tuple #[]) ∧ Rd w' (some ⟨g, 0, none⟩) 2 Pc (sortP l) ∧ Below g w w' := by
  have HO := Lib.hid hO
  clear hO
  go_enter Tryd.func35, Tryd.ntmps35
  go_wp2_with (go_at_call 65; refine (stable_any g cap l _ HO.out hn).mono ?_; rintro e w2 ⟨rfl, hr2, hb2⟩; have HR2 := Lib.hid hr2; have HB2 := Lib.hid hb2; clear hr2 hb2)
  go_end0
  exact ⟨rfl, HR2.out, HB2.out⟩
end Go.Proofs.YticonpjkcocgeaaDoor
