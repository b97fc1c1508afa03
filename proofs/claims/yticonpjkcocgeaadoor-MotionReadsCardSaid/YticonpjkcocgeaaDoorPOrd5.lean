/- Plain law of MotionOrder: what is read after a movement. No program in sight. -/
import Derived.Test.YticonpjkcocgeaaDoorPAll
set_option linter.unusedVariables false
set_option linter.unusedSimpArgs false
namespace Sg

theorem trim_sufx (els : List Elm) (head len : Int) : ∀ l : List Stp, ∃ t, trimB els l head len = l.drop t ∧ (0 < l.length → t < l.length)
  | [] => ⟨0, by rw [trimB_nil]; rfl, fun h => by simp at h⟩
  | [s] => ⟨0, by rw [trimB_one]; rfl, fun h => by simp⟩
  | s :: t :: r => by
    rw [trimB_cons]
    split
    · obtain ⟨k, h1, h2⟩ := trim_sufx els head len (t :: r)
      exact ⟨k + 1, by rw [h1]; rfl, fun _ => by have := h2 (by simp); simp at this ⊢; omega⟩
    · exact ⟨0, rfl, fun _ => by simp⟩
theorem sumL_split (els : List Elm) (l : List Stp) (k : Nat) : sumL els l = sumL els (l.take k) + sumL els (l.drop k) := by
  rw [← sumL_append, List.take_append_drop]
theorem strV_drop (els : List Elm) {l : List Stp} {t : Nat} (h : t < l.length) (head : Int) : strV els l head = sumL els (l.take t) + strV els (l.drop t) head := by
  unfold strV
  have e : l.take (l.length - 1) = l.take t ++ (l.drop t).take (l.length - t - 1) := by
    rw [List.take_drop, show t + (l.length - t - 1) = l.length - 1 by omega]
    have : l.take t = (l.take (l.length - 1)).take t := by rw [List.take_take]; congr 1; omega
    rw [this, List.take_append_drop]
  rw [e, sumL_append, List.length_drop]
  omega
theorem strV_full (els : List Elm) {l : List Stp} (h : 0 < l.length) (head : Int) : strV els l head = sumL els l - lenOf els (lastS l) + head := by
  have := sumL_last els h
  unfold strV
  omega
theorem strV_snoc (els : List Elm) (l : List Stp) (s : Stp) (head : Int) : strV els (l ++ [s]) head = sumL els l + head := by
  unfold strV
  rw [List.length_append]
  simp
section
variable {els : List Elm} {jts : List Jnt} {pos : List Int} {len : Int}
/-- How a movement leads: over new steps N, of which those from t on are kept. -/
theorem mov_path : ∀ (n : Nat) (l : List Stp) (head left moved : Int), 0 < l.length →
    ∃ (N : List Stp) (t : Nat), (movF els jts pos len n l head left moved).steps = (l ++ N).drop t ∧ t < (l ++ N).length ∧ (movF els jts pos len n l head left moved).moved - moved = strV els (l ++ N) (movF els jts pos len n l head left moved).head - strV els l head
  | 0, l, head, left, moved, h0 => ⟨[], 0, by simp [movF], by simpa using h0, by simp [movF]⟩
  | n + 1, l, head, left, moved, h0 => by
    obtain ⟨k, hk⟩ : ∃ k, k = min left (lenOf els (lastS l) - head) := ⟨_, rfl⟩
    rw [movF, ← hk]
    obtain ⟨t, h1, h2⟩ := trim_sufx els (head + k) len l
    have h2 := h2 h0
    have hs : strV els l (head + k) = strV els l head + k := by unfold strV; omega
    by_cases hd : left - k ≤ 0
    · rw [if_pos hd]
      exact ⟨[], t, by simpa using h1, by simpa using h2, by simp only [List.append_nil]; rw [hs]; omega⟩
    · rw [if_neg hd]
      cases hn : nextS els jts pos (trimB els l (head + k) len) with
      | none => exact ⟨[], t, by simpa using h1, by simpa using h2, by simp only [List.append_nil]; rw [hs]; omega⟩
      | some s =>
        dsimp only
        obtain ⟨N, t', i1, i2, i3⟩ := mov_path n (trimB els l (head + k) len ++ [s]) 0 (left - k) (moved + k) (by simp)
        rw [h1] at i1 i2 i3 ⊢
        have e : l.drop t ++ [s] ++ N = (l ++ (s :: N)).drop t := by
          rw [List.drop_append_of_le_length (by omega)]; simp
        rw [e] at i1 i2 i3
        have hlt : t < (l ++ (s :: N)).length := by simp; omega
        rw [List.drop_drop] at i1
        rw [List.length_drop] at i2
        refine ⟨s :: N, t + t', i1, by omega, ?_⟩
        have g1 := strV_drop els hlt (movF els jts pos len n (l.drop t ++ [s]) 0 (left - k) (moved + k)).head
        have g2 := strV_snoc els (l.drop t) s 0
        have g3 := sumL_split els l t
        have g4 := strV_full els h0 head
        have g5 : (l ++ (s :: N)).take t = l.take t := by rw [List.take_append_of_le_length (by omega)]
        rw [g5] at g1
        omega
end
/-- Where a step of a way lies in its list, if the steps differ. -/
theorem idxS_is {l : List Stp} {k : Nat} {s : Stp} (h : l[k]? = some s) (hd : ∀ (i j : Nat) x y, i < j → l[i]? = some x → l[j]? = some y → x.el ≠ y.el) : idxS l s = k :=
  idxS_at h fun j t hj ht e => hd j k t s hj ht h (by rw [e])
/-- No two are equal. -/
theorem way_dist {els : List Elm} {jts : List Jnt} {l : List Stp} (h : Way els jts l) : ∀ (i j : Nat) x y, i < j → l[i]? = some x → l[j]? = some y → x.el ≠ y.el := fun i j x y hij hx hy =>
  (h.2.2 j y (List.getElem?_eq_some_iff.1 hy).1 hy).2.1 i x hij hx
theorem len_nonneg {els : List Elm} {s : Stp} (hE : ∀ el, hasEl els el → 500 ≤ (elAt els el).len) (h : hasEl els s.el) : 0 ≤ lenOf els s := by have := hE _ h; unfold lenOf; omega
theorem sumL_nonneg {els : List Elm} (hE : ∀ el, hasEl els el → 500 ≤ (elAt els el).len) : ∀ {l : List Stp}, (∀ (k : Nat) s, l[k]? = some s → hasEl els s.el) → 0 ≤ sumL els l
  | [], _ => by simp [sumL]
  | s :: r, h => by
    have h1 := len_nonneg hE (h 0 s rfl)
    have h2 := sumL_nonneg hE (l := r) fun k t ht => h (k + 1) t (by simpa using ht)
    unfold sumL; omega
/-- What is passed differs in its numbers. -/
def DistId (l : List Pas) : Prop := l.Pairwise fun p q => p.id ≠ q.id
theorem distId_perm {l m : List Pas} (h : l.Perm m) (g : DistId l) : DistId m := h.pairwise g fun h => h.symm
theorem passL_dist {els : List Elm} {fr head at_ : Int} {i : Nat} {s : Stp} {bals : List Bls} (hd : bals.Pairwise fun a b => a.id ≠ b.id) : DistId (passL els fr head i at_ s bals) := by
  unfold DistId passL
  rw [List.pairwise_map]
  exact (hd.filter _)
theorem passT_dist {els : List Elm} {fr head : Int} {bals : List Bls} {way : List Stp} (hd : bals.Pairwise fun a b => a.id ≠ b.id) (hw : ∀ (i j : Nat) x y, i < j → way[i]? = some x → way[j]? = some y → x.el ≠ y.el) : ∀ k, k ≤ way.length → DistId (passT els fr head bals way k)
  | 0, _ => List.Pairwise.nil
  | k + 1, hk => by
    unfold passT
    have hs : way[k]? = some (way[k]'(by omega)) := List.getElem?_eq_getElem (by omega)
    by_cases hf : fr ≤ (k : Int)
    · rw [passI_at hs hf]
      refine List.pairwise_append.2 ⟨passT_dist hd hw k (by omega), passL_dist hd, fun p hp q hq => ?_⟩
      obtain ⟨i, s, b, j, hik, hsi, hb, _, hpb, rfl⟩ := passT_mem hp (by omega)
      obtain ⟨j', b', hb', hpb', rfl⟩ := passL_mem hq
      have e1 : s.el = b.el := by unfold passB placeB at hpb; simp at hpb; exact hpb.1.1
      have e2 : (way[k]'(by omega)).el = b'.el := by unfold passB placeB at hpb'; simp at hpb'; exact hpb'.1.1
      have hne := hw i k s _ hik hsi hs
      show b.id ≠ b'.id
      obtain ⟨l1, rfl⟩ := List.getElem?_eq_some_iff.1 hb
      obtain ⟨l2, rfl⟩ := List.getElem?_eq_some_iff.1 hb'
      rcases Nat.lt_trichotomy j j' with h | h | h
      · exact List.pairwise_iff_getElem.1 hd j j' l1 l2 h
      · subst h; rw [e1, e2] at hne; exact absurd rfl hne
      · exact (List.pairwise_iff_getElem.1 hd j' j l2 l1 h).symm
    · rw [passI_no hf, List.append_nil]; exact passT_dist hd hw k (by omega)
theorem nodup_len : ∀ {l m : List Int}, l.Pairwise (fun a b => a ≠ b) → (∀ x ∈ l, x ∈ m) → l.length ≤ m.length
  | [], m, _, _ => by simp
  | x :: r, m, hd, hs => by
    obtain ⟨h1, h2⟩ := List.pairwise_cons.1 hd
    have hx := hs x (by simp)
    have := nodup_len (l := r) (m := m.erase x) h2 fun y hy => by
      have hne : y ≠ x := fun e => h1 y hy e.symm
      exact (List.mem_erase_of_ne hne).2 (hs y (by simp [hy]))
    rw [List.length_erase_of_mem hx] at this
    have : 0 < m.length := List.length_pos_of_mem hx
    simp only [List.length_cons]; omega
theorem passA_len {els : List Elm} {jts : List Jnt} {bals : List Bls} {l1 l2 : List Stp} {head1 : Int} (hd : bals.Pairwise fun a b => a.id ≠ b.id) (hw : Way els jts l2) : (passA els bals l1 head1 l2).length ≤ bals.length := by
  have h := passT_dist (els := els) (fr := idxS l2 (lastS l1)) (head := head1) hd (way_dist hw) l2.length (Nat.le_refl _)
  have := nodup_len (l := (passA els bals l1 head1 l2).map (·.id)) (m := bals.map (·.id)) (by rw [List.pairwise_map]; exact h) fun x hx => by
    obtain ⟨p, hp, rfl⟩ := List.mem_map.1 hx
    obtain ⟨i, s, b, j, _, _, hb, _, _, rfl⟩ := passT_mem hp (Nat.le_refl _)
    exact List.mem_map.2 ⟨b, List.mem_of_getElem? hb, rfl⟩
  simpa using this
theorem lenOf_nonneg {els : List Elm} (hE : ∀ (k : Nat) x, els[k]? = some x → 0 ≤ x.len) (s : Stp) : 0 ≤ lenOf els s := by
  unfold lenOf elAt
  rw [List.getD_eq_getElem?_getD]
  cases h : els[s.el.toNat]? with
  | none => exact Int.le_refl _
  | some x => exact hE _ x h
theorem sumL_nn {els : List Elm} (hE : ∀ (k : Nat) x, els[k]? = some x → 0 ≤ x.len) : ∀ l : List Stp, 0 ≤ sumL els l
  | [] => by simp [sumL]
  | s :: r => by have := lenOf_nonneg hE s; have := sumL_nn hE r; unfold sumL; omega
/-- Where what is passed lies. -/
theorem pass_where {els : List Elm} {jts : List Jnt} {pos : List Int} {bals : List Bls} {len : Int} {l1 : List Stp} {head1 left : Int} {M : Mvd} (hM : M = movF els jts pos len 2003 l1 head1 left 0) (hE : ∀ (k : Nat) x, els[k]? = some x → 0 ≤ x.len) (h0 : 0 < l1.length) (hh : head1 ≤ lenOf els (lastS l1)) (hw : Way els jts M.steps) (hd : 1 ≤ M.head)
    (hp : ∀ (j : Nat) b s, bals[j]? = some b → 0 ≤ placeV els s b) {p : Pas} (h : p ∈ passA els bals l1 head1 M.steps) :
    strV els M.steps M.head - M.moved ≤ p.place ∧ (p.place ≤ strV els M.steps M.head → 0 < M.moved) := by
  obtain ⟨N, t, e1, e2, e3⟩ := mov_path (els := els) (jts := jts) (pos := pos) (len := len) 2003 l1 head1 left 0 h0
  rw [← hM] at e1 e3
  obtain ⟨i, s, b, j, hi, hs, hb, hf, hpb, rfl⟩ := passT_mem h (Nat.le_refl _)
  have hpl := hp j b s hb
  have g1 := strV_drop els e2 M.head
  rw [← e1] at g1
  have g2 := strV_full els h0 head1
  have hF : (l1 ++ N)[t + i]? = some s := by rw [e1, List.getElem?_drop] at hs; exact hs
  have g3 : sumL els ((l1 ++ N).take t) + sumL els (M.steps.take i) = sumL els ((l1 ++ N).take (t + i)) := by
    rw [e1, ← sumL_append]
    congr 1
    have : (l1 ++ N).take t = ((l1 ++ N).take (t + i)).take t := by rw [List.take_take]; congr 1; omega
    rw [this, List.take_drop, List.take_append_drop]
  have g4 := lastS_at h0
  show strV els M.steps M.head - M.moved ≤ sumL els (M.steps.take i) + placeV els s b ∧ (sumL els (M.steps.take i) + placeV els s b ≤ strV els M.steps M.head → 0 < M.moved)
  rcases Nat.lt_trichotomy (t + i) (l1.length - 1) with hq | hq | hq
  · exfalso
    have hk : M.steps[l1.length - 1 - t]? = some (lastS l1) := by
      rw [e1, List.getElem?_drop, show t + (l1.length - 1 - t) = l1.length - 1 by omega, List.getElem?_append_left (by omega)]
      exact g4
    have := idxS_is hk (way_dist hw)
    rw [this] at hf
    omega
  · have hl : s = lastS l1 := by
      rw [hq, List.getElem?_append_left (by omega), g4] at hF
      cases hF; rfl
    have hfr : idxS M.steps (lastS l1) = (i : Int) := idxS_is (by rw [← hl]; exact hs) (way_dist hw)
    have hpb2 : head1 < placeV els s b := by
      unfold passB at hpb
      rw [hfr] at hpb
      simp at hpb
      exact hpb.2
    have g5 : sumL els ((l1 ++ N).take (t + i)) = sumL els (l1.take (l1.length - 1)) := by rw [hq, List.take_append_of_le_length (by omega)]
    have g6 := sumL_last els h0
    omega
  · have g5 : sumL els ((l1 ++ N).take (t + i)) = sumL els l1 + sumL els (N.take (t + i - l1.length)) := by
      rw [List.take_append, sumL_append, List.take_of_length_le (by omega)]
    have g6 := sumL_nn hE (N.take (t + i - l1.length))
    have hlen : t + i < (l1 ++ N).length := (List.getElem?_eq_some_iff.1 hF).1
    have g7 : strV els (l1 ++ N) M.head = sumL els l1 + sumL els (N.take ((l1 ++ N).length - 1 - l1.length)) + M.head := by
      unfold strV
      rw [List.take_append, sumL_append, List.take_of_length_le (l := l1) (by omega)]
    have g8 := sumL_nn hE (N.take ((l1 ++ N).length - 1 - l1.length))
    omega
/-- The readings after a movement: passed within its distance, in the order in which they were passed, each once. -/
theorem ord_law {els : List Elm} {jts : List Jnt} {pos : List Int} {bals : List Bls} {len : Int} {l1 : List Stp} {head1 left : Int} {M : Mvd} (hM : M = movF els jts pos len 2003 l1 head1 left 0) (hE : ∀ (k : Nat) x, els[k]? = some x → 0 ≤ x.len) (h0 : 0 < l1.length) (hh : head1 ≤ lenOf els (lastS l1)) (hw : Way els jts M.steps) (hd : 1 ≤ M.head)
    (hp : ∀ (j : Nat) b s, bals[j]? = some b → 0 ≤ placeV els s b) (hb : bals.Pairwise fun a b => a.id ≠ b.id) {r : List Rea} (hr : r = reaF (strV els M.steps M.head) (sortP (passA els bals l1 head1 M.steps))) :
    (∀ x ∈ r, 0 ≤ x.off ∧ x.off ≤ M.moved) ∧ r.Pairwise (fun x y => y.off ≤ x.off ∧ x.id ≠ y.id) ∧ (0 < M.moved ∨ r = []) := by
  have key : ∀ x ∈ r, ∃ p ∈ passA els bals l1 head1 M.steps, p.place ≤ strV els M.steps M.head ∧ x = ⟨p.id, strV els M.steps M.head - p.place⟩ := fun x hx => by
    rw [hr] at hx
    unfold reaF at hx
    obtain ⟨p, hp, rfl⟩ := List.mem_map.1 hx
    obtain ⟨h1, h2⟩ := List.mem_filter.1 hp
    exact ⟨p, (sortP_perm _).subset h1, of_decide_eq_true h2, rfl⟩
  refine ⟨fun x hx => ?_, ?_, ?_⟩
  · obtain ⟨p, h1, h2, rfl⟩ := key x hx
    have := (pass_where hM hE h0 hh hw hd hp h1).1
    show 0 ≤ _ - _ ∧ _ - _ ≤ _
    omega
  · rw [hr]
    unfold reaF
    rw [List.pairwise_map]
    have d1 : DistId (sortP (passA els bals l1 head1 M.steps)) := distId_perm (sortP_perm _).symm (passT_dist hb (way_dist hw) _ (Nat.le_refl _))
    have d2 := sortP_sorted (passA els bals l1 head1 M.steps)
    refine (List.Pairwise.filter _ (List.Pairwise.and d2 d1)).imp ?_
    intro a b h
    have := h.1
    rw [befP_false] at this
    exact ⟨by show _ - _ ≤ _ - _; omega, h.2⟩
  · cases hc : r with
    | nil => exact .inr rfl
    | cons x xs =>
      obtain ⟨p, h1, h2, _⟩ := key x (by rw [hc]; simp)
      exact .inl ((pass_where hM hE h0 hh hw hd hp h1).2 h2)
end Sg
