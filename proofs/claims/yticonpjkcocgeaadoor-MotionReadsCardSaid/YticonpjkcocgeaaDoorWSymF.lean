/- Walks: the library's stable sort of fewer than 40 passed balises. -/
import Derived.Test.YticonpjkcocgeaaDoorWSymE
set_option linter.unusedVariables false
set_option linter.unusedSimpArgs false
set_option maxRecDepth 100000
namespace Go.Proofs.YticonpjkcocgeaaDoor
open Go.ChangeShapes Go.WideShapes Go.ChangeAt Go.RowKit Go.Sort
open Sg

theorem sort_frozen {α : Type} [Inhabited α] {enc : α → List Value} {k : Nat} {w : World} {blk off n : Nat} {d : Array α} {os : Array Obj} (hb : blk < w.heap.size) (j : Nat) : (sortWorldK enc k w blk off n d os).frozen? ⟨blk, j, none⟩ = w.frozen? ⟨blk, j, none⟩ := by
  have hs : ((putRowK enc k (Sort.ahead w n) blk off d)).heap.size = w.heap.size := size_putRow id _ _ _ _
  obtain ⟨f, h⟩ : ∃ f : Array Value → Array Value, (sortWorldK enc k w blk off n d os).heap[blk]? = ((Sort.ahead w n).heap.modify blk (onCells f))[blk]? := by
    unfold sortWorldK
    rw [heap_grow_old _ _ (by rw [hs]; exact hb)]
    exact ⟨_, rfl⟩
  unfold World.frozen?
  rw [h, Array.getElem?_modify, if_pos rfl]
  have e : (Sort.ahead w n).heap = w.heap := rfl
  rw [e]
  cases w.heap[blk]? with
  | none => rfl
  | some ob => cases ob <;> rfl
/-- The library's insertion sort of a part of a block of the call's own. -/
theorem isort_at (g cap n a b : Nat) (A X B : List Pas) (w : World) (hn : n = (A ++ (X ++ B)).length) (ha : a = A.length) (hb : b = a + X.length) (hO : Own w g ((A ++ (X ++ B)).flatMap Pc)) (h6 : n ≤ 1000000) :
    Calls Tryd.prog 93 #[.slice (some ⟨g, 0, none⟩) n cap, .int .i64 a, .int .i64 b, .func (.func 36) #[] #[]] w fun e w' => e = .returned (.tuple #[]) ∧ Own w' g ((A ++ (sortP X ++ B)).flatMap Pc) ∧ Below g w w' := by
  have eg : ∀ args w, (callFunc 36 args).run Tryd.prog w = .ok (.enter 36 args) w := enters_of Tryd.func36 (by kernel_rfl) rfl
  subst ha hb
  have hH := holdsK_own Pc_len hO
  have hsz : (A ++ (X ++ B)).toArray.size = n := by rw [hn]; simp
  have hle : A.length + X.length ≤ (A ++ (X ++ B)).toArray.size := by rw [List.size_toArray]; simp only [List.length_append]; omega
  have h := AnyQ.insertionSortCmpFunc layP 2 Tryd.isAgg90 Tryd.sizeOf90 Pc Pc_len Pc_one cmpP 36 #[] g 0 cap A.length (A.length + X.length) (A ++ (X ++ B)).toArray w eg (fun _ _ _ _ x y => cmpf_any x y _) hH hO.1 (by omega) hle (by rw [hsz]; omega)
  rw [ltOf_cmpP, insertionSort_at, hsz] at h
  refine h.mono fun ee w' ⟨he, q, os, hw⟩ => ⟨he, ?_, ?_⟩
  · subst hw
    have hl2 : (A ++ (sortP X ++ B)).length = (A ++ (X ++ B)).length := by simp only [List.length_append, sortP_len]
    have hr := rd_holdsK Pc_len (Nat.lt_of_lt_of_le hO.1 (size_sortWorldK_c Pc 2 w g 0 q _ os)) (holdsK_sortWorldK_c Pc 2 w g 0 (A ++ (X ++ B)).toArray (A ++ (sortP X ++ B)).toArray q os hH hO.1 (by simp [hl2]))
    refine ⟨Nat.lt_of_lt_of_le hO.1 (size_sortWorldK_c Pc 2 w g 0 q _ os), fun j v hj => ?_, fun j => by rw [sort_frozen hO.1]; exact hO.2.2 j⟩
    have hl := (List.getElem?_eq_some_iff.1 hj).1
    rw [flat_lenP] at hl
    obtain ⟨b', off, e, _, hc⟩ := hr (by omega)
    cases e
    have hi : j / 2 < (A ++ (sortP X ++ B)).length := by omega
    obtain ⟨x, hx⟩ : ∃ x, (A ++ (sortP X ++ B))[j / 2]? = some x := ⟨_, List.getElem?_eq_getElem hi⟩
    have hm : j % 2 < 2 := Nat.mod_lt _ (by decide)
    obtain ⟨u, hu⟩ : ∃ u, (Pc x)[j % 2]? = some u := ⟨_, List.getElem?_eq_getElem (by rw [Pc_len]; exact hm)⟩
    have e1 := flat_at Pc_len _ _ _ x u hx hu
    have e2 : j / 2 * 2 + j % 2 = j := by omega
    rw [e2, hj] at e1
    cases e1
    have := hc _ _ hx _ _ hu
    rwa [Nat.zero_add, e2] at this
  · subst hw
    exact sort_below hO.1
section
set_option maxHeartbeats 8000000
theorem stable_more (g cap n : Nat) (l : List Pas) (w : World) (hn : n = l.length) (hO : Own w g (l.flatMap Pc)) (h20 : 20 ≤ n) (h40 : n < 40) :
    Calls Tryd.prog 65 #[.slice (some ⟨g, 0, none⟩) n cap, .int .i64 n, .func (.func 36) #[] #[]] w fun e w' => e = .returned (.tuple #[]) ∧ Own w' g ((sortP l).flatMap Pc) ∧ Below g w w' := by
  obtain ⟨X, hX⟩ : ∃ X, X = l.take 20 := ⟨_, rfl⟩
  obtain ⟨Y, hY⟩ : ∃ Y, Y = l.drop 20 := ⟨_, rfl⟩
  have e : X ++ Y = l := by rw [hX, hY, List.take_append_drop]
  have lX : X.length = 20 := by rw [hX, List.length_take]; omega
  have lY : Y.length = n - 20 := by rw [hY, List.length_drop]; omega
  have HE := Lib.hid e
  have HO : Hid (Own w g (([] ++ (X ++ Y)).flatMap Pc)) := by rw [List.nil_append, e]; exact hO
  have HX := Lib.hid lX
  have HY := Lib.hid lY
  clear hX hY e lX lY hn hO
  have HI1 : Hid (∀ w' : World, Own w' g (([] ++ (X ++ Y)).flatMap Pc) → Calls Tryd.prog 93 #[.slice (some ⟨g, 0, none⟩) n cap, .int .i64 0, .int .i64 20, .func (.func 36) #[] #[]] w' fun e w2 => e = .returned (.tuple #[]) ∧ Own w2 g (([] ++ (sortP X ++ Y)).flatMap Pc) ∧ Below g w' w2) := fun w' h =>
    isort_at g cap n 0 20 [] X Y w' (by have h1 := HX.out; have h2 := HY.out; simp only [List.length_append, List.length_nil]; omega) rfl (by rw [HX.out]) h (by omega)
  have HI2 : Hid (∀ w' : World, Own w' g (([] ++ (sortP X ++ Y)).flatMap Pc) → Calls Tryd.prog 93 #[.slice (some ⟨g, 0, none⟩) n cap, .int .i64 20, .int .i64 n, .func (.func 36) #[] #[]] w' fun e w2 => e = .returned (.tuple #[]) ∧ Own w2 g ((sortP X ++ (sortP Y ++ [])).flatMap Pc) ∧ Below g w' w2) := fun w' h =>
    isort_at g cap n 20 n (sortP X) Y [] w' (by have h1 := HX.out; have h2 := HY.out; simp only [List.length_append, List.length_nil, sortP_len]; omega) (by rw [sortP_len, HX.out]) (by have h2 := HY.out; omega) (by simpa using h) (by omega)
  have HSM : Hid (20 < n → ∀ w' : World, Own w' g ((sortP X ++ (sortP Y ++ [])).flatMap Pc) → Calls Tryd.prog 94 #[.slice (some ⟨g, 0, none⟩) n cap, .int .i64 0, .int .i64 20, .int .i64 n, .func (.func 36) #[] #[]] w' fun e w2 => e = .returned (.tuple #[]) ∧ Own w2 g (([] ++ (sortP (sortP X ++ sortP Y) ++ [])).flatMap Pc) ∧ Below g w' w2) := fun hlt w' h =>
    sym_any g cap n (by omega) 100 0 20 n [] (sortP X) (sortP Y) [] w' (by have h1 := HX.out; have h2 := HY.out; rw [sortP_len, sortP_len]; omega) (by have h1 := HX.out; have h2 := HY.out; simp only [List.length_append, List.length_nil, sortP_len]; omega) rfl (by rw [sortP_len, HX.out]) (by have h2 := HY.out; rw [sortP_len]; omega) (by have h1 := HX.out; rw [sortP_len]; omega) (by have h2 := HY.out; rw [sortP_len]; omega) (sortP_sorted _) (sortP_sorted _) (by simpa using h)
  have HF : Hid (sortP (sortP X ++ sortP Y) = sortP l) := by
    show _ = _
    rw [← HE.out]
    exact sortP_congr ((sortP_perm X).append (sortP_perm Y))
  go_enter Tryd.func65, Tryd.ntmps65
  go_wp2
  go_loopg [7, 8] 1 (fun gg b c wr => (b = .int .i64 0 ∧ c = .int .i64 20 ∧ gg = 1 ∧ Hid (Own wr g (([] ++ (X ++ Y)).flatMap Pc)) ∧ Hid (Below g w wr)) ∨ (b = .int .i64 20 ∧ c = .int .i64 40 ∧ gg = 0 ∧ Hid (Own wr g (([] ++ (sortP X ++ Y)).flatMap Pc)) ∧ Hid (Below g w wr)))
  case atStart => exact .inl ⟨rfl, rfl, rfl, HO.out, Below.refl _ _⟩
  case round =>
    obtain ⟨wi, rfl⟩ : ∃ wi : World, wi = wr := ⟨_, rfl⟩
    rcases hrel with ⟨rfl, rfl, hg, O, B⟩ | ⟨rfl, rfl, hg, O, B⟩
    · have HG := Lib.hid hg
      clear hg
      have q0 : decide ((20 : Int) ≤ (n : Int)) = true := decide_eq_true (by omega)
      go_wp2_with (go_at_call 93; refine (HI1.out _ O.out).mono ?_; rintro e w2 ⟨rfl, ho, hb⟩; have O2 := Lib.hid ho; have B2 := Lib.hid (B.out.trans hb); clear ho hb)
      go_roundg 0
      case measure => have := HG.out; omega
      case rel => exact .inr ⟨rfl, rfl, rfl, O2.out, B2.out⟩
    · have q0 : decide ((40 : Int) ≤ (n : Int)) = false := decide_eq_false (by omega)
      clear hg
      go_wp2_with (go_at_call 93; refine (HI2.out _ O.out).mono ?_; rintro e w2 ⟨rfl, ho, hb⟩; have O2 := Lib.hid ho; have B2 := Lib.hid (B.out.trans hb); clear ho hb)
      go_loopg [6] 1 (fun gg a wr => (a = .int .i64 20 ∧ gg = 1 ∧ wr = w2) ∨ (a = .int .i64 40 ∧ gg = 0 ∧ Hid (Own wr g ((sortP l).flatMap Pc)) ∧ Hid (Below g w wr)))
      case atStart => exact .inl ⟨rfl, rfl, rfl⟩
      case round =>
        obtain ⟨wj, rfl⟩ : ∃ wj : World, wj = wr := ⟨_, rfl⟩
        rcases hrel with ⟨rfl, hg, rfl⟩ | ⟨rfl, hg, O3, B3⟩
        · have HG := Lib.hid hg
          clear hg
          by_cases hlt : 20 < n
          · have q1 : decide ((20 : Int) < (n : Int)) = true := decide_eq_true (by omega)
            have HS := Lib.hid (HSM.out hlt)
            go_wp2
            go_loopg [7, 8] 0 (fun gg b c wr => b = .int .i64 0 ∧ c = .int .i64 40 ∧ wr = wj)
            case atStart => exact ⟨rfl, rfl, rfl⟩
            case round =>
              obtain ⟨rfl, rfl, rfl⟩ := hrel
              go_wp2_with (go_at_call 94; refine (HS.out _ O2.out).mono ?_; rintro e w4 ⟨rfl, ho, hb⟩; have O4 := Lib.hid ho; have B4 := Lib.hid (B2.out.trans hb); clear ho hb)
              go_roundg 0
              case measure => have := HG.out; omega
              case rel => exact .inr ⟨rfl, rfl, Lib.hid (by have := O4.out; rw [HF.out] at this; simpa using this), B4.out⟩
          · have q1 : decide ((20 : Int) < (n : Int)) = false := decide_eq_false (by omega)
            have HO5 : Hid (Own wj g ((sortP l).flatMap Pc)) := by
              have hy : Y = [] := List.eq_nil_of_length_eq_zero (by have := HY.out; omega)
              have h1 := HF.out
              rw [hy, show sortP ([] : List Pas) = [] from rfl, List.append_nil, sortP_id (sortP_sorted X)] at h1
              have h2 := O2.out
              rw [hy, show sortP ([] : List Pas) = [] from rfl, List.nil_append, List.append_nil, h1] at h2
              exact h2
            go_wp2
            go_end0
            exact ⟨rfl, HO5.out, B2.out⟩
        · have q1 : decide ((40 : Int) < (n : Int)) = false := decide_eq_false (by omega)
          clear hg
          go_wp2
          go_end0
          exact ⟨rfl, O3.out, B3.out⟩
/-- The stable sort is right for fewer than 40. -/
theorem sort_more : SortOk 39 := sort_ok fun g cap l w hO hl hc => by
  rcases Nat.lt_or_ge l.length 20 with h | h
  · exact sorts_any g cap l w hO h
  · have HO := Lib.hid hO
    have HST : Hid (Calls Tryd.prog 65 #[.slice (some ⟨g, 0, none⟩) l.length cap, .int .i64 l.length, .func (.func 36) #[] #[]] w fun e w' => e = .returned (.tuple #[]) ∧ Own w' g ((sortP l).flatMap Pc) ∧ Below g w w') := stable_more g cap l.length l w rfl hO h (by omega)
    clear hO
    go_enter Tryd.func35, Tryd.ntmps35
    go_wp2_with (go_at_call 65; refine HST.out.mono ?_; rintro e w2 ⟨rfl, ho, hb2⟩; have HR2 := Lib.hid ho; have HB2 := Lib.hid hb2; clear ho hb2)
    go_end0
    exact ⟨rfl, rd_cells Pc_len HR2.out.cells, HB2.out⟩
end
end Go.Proofs.YticonpjkcocgeaaDoor
