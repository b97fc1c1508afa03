/- Plain mathematics of written orders. No program in sight. -/
import Derived.Sort.Defs
set_option linter.unusedVariables false
set_option linter.unusedSimpArgs false
namespace Sg

/-- A written order. -/
structure Odr where
  train : Int
  kind : Int
  until_ : Int
theorem Odr.eq {a b : Odr} (h1 : a.train = b.train) (h2 : a.kind = b.kind) (h3 : a.until_ = b.until_) : a = b := by
  cases a; cases b; simp_all
instance : Inhabited Odr := ⟨⟨0, 0, 0⟩⟩
def hitR (t k : Int) (o : Odr) : Bool := o.train == t && o.kind == k
theorem hitR_true {t k : Int} {o : Odr} : hitR t k o = true ↔ o.train = t ∧ o.kind = k := by unfold hitR; rw [Bool.and_eq_true, beq_iff_eq, beq_iff_eq]
def evV (k : Int) : Int := if k = 5 then 4 else if k = 6 then 5 else if k = 7 then 6 else 0
def onR (t k now : Int) (o : Odr) : Bool := hitR t k o && decide (now ≤ o.until_)
def inV (l : List Odr) (t k now : Int) : Bool := l.any (onR t k now)
theorem inV_true {l : List Odr} {t k now : Int} {i : Nat} {o : Odr} (hi : l[i]? = some o) (h : onR t k now o = true) : inV l t k now = true := by
  unfold inV; rw [List.any_eq_true]; exact ⟨o, List.mem_of_getElem? hi, h⟩
theorem inV_false {l : List Odr} {t k now : Int} (h : ∀ (i : Nat) o, l[i]? = some o → onR t k now o = false) : inV l t k now = false := by
  unfold inV; rw [List.any_eq_false]; intro x hx
  obtain ⟨j, hj, rfl⟩ := List.getElem_of_mem hx
  rw [h j _ (List.getElem?_eq_getElem hj)]; simp
def keepR (now : Int) (o : Odr) : Bool := decide (now ≤ o.until_)
def expR (l : List Odr) (now : Int) : List Odr := l.filter (keepR now)
theorem expR_take {l : List Odr} {k : Nat} {p : Odr} (now : Int) (h : l[k]? = some p) : expR (l.take (k + 1)) now = expR (l.take k) now ++ (if keepR now p = true then [p] else []) := by
  obtain ⟨hl, rfl⟩ := List.getElem?_eq_some_iff.1 h
  unfold expR
  rw [List.take_succ_eq_append_getElem hl, List.filter_append]
  congr 1
  cases hd : keepR now l[k] <;> simp [hd]
theorem expR_len (l : List Odr) (now : Int) : (expR l now).length ≤ l.length := List.length_filter_le _ _
/-- The order of the list. -/
def befB (a b : Odr) : Bool := decide (a.train < b.train) || (a.train == b.train && decide (a.kind < b.kind))
theorem befB_true {a b : Odr} : befB a b = true ↔ a.train < b.train ∨ (a.train = b.train ∧ a.kind < b.kind) := by unfold befB; simp
theorem befB_false {a b : Odr} : befB a b = false ↔ b.train < a.train ∨ (a.train = b.train ∧ b.kind ≤ a.kind) := by
  rw [← Bool.not_eq_true, befB_true]; omega
/-- With a further one ahead of the first that comes behind it. -/
def insO (o : Odr) : List Odr → List Odr
  | [] => [o]
  | x :: xs => if befB o x = true then o :: x :: xs else x :: insO o xs
def sortO (l : List Odr) : List Odr := l.foldl (fun acc x => insO x acc) []
theorem insO_len (o : Odr) : ∀ l : List Odr, (insO o l).length = l.length + 1
  | [] => rfl
  | x :: xs => by unfold insO; split; · rfl
                  · simp [insO_len o xs]
theorem insO_perm (o : Odr) : ∀ l : List Odr, (insO o l).Perm (o :: l)
  | [] => List.Perm.refl _
  | x :: xs => by
    unfold insO; split
    · exact List.Perm.refl _
    · exact ((insO_perm o xs).cons x).trans (List.Perm.swap o x xs)
theorem insO_last {o : Odr} : ∀ {l : List Odr}, (∀ a ∈ l, befB o a = false) → insO o l = l ++ [o]
  | [], _ => rfl
  | x :: xs, h => by
    unfold insO
    rw [h x (by simp), if_neg (by simp), insO_last fun a ha => h a (by simp [ha])]; rfl
theorem insO_snoc {o x : Odr} (hx : befB o x = true) : ∀ {l : List Odr}, insO o (l ++ [x]) = insO o l ++ [x]
  | [] => by simp [insO, hx]
  | y :: ys => by
    rw [List.cons_append]
    unfold insO
    by_cases h : befB o y = true
    · rw [if_pos h, if_pos h]; rfl
    · rw [if_neg h, if_neg h, insO_snoc hx]; rfl
/-- ahead of the place: none comes behind o; at the place: one does. -/
theorem insO_at {o x : Odr} : ∀ {l : List Odr} {k : Nat}, l[k]? = some x → befB o x = true → (∀ a ∈ l.take k, befB o a = false) → insO o l = l.take k ++ o :: l.drop k
  | [], _, hk, _, _ => by simp at hk
  | y :: ys, 0, hk, hx, _ => by simp at hk; subst hk; simp [insO, hx]
  | y :: ys, k + 1, hk, hx, hn => by
    have h0 : befB o y = false := hn y (by simp)
    have := insO_at (l := ys) (k := k) (by simpa using hk) hx (fun a ha => hn a (by simp [ha]))
    simp [insO, h0, this]
def Sorted (l : List Odr) : Prop := l.Pairwise fun a b => befB b a = false
theorem Sorted.ins (o : Odr) : ∀ {l : List Odr}, Sorted l → Sorted (insO o l)
  | [], _ => List.pairwise_singleton _ _
  | x :: xs, h => by
    obtain ⟨h1, h2⟩ := List.pairwise_cons.1 h
    unfold insO
    by_cases hb : befB o x = true
    · rw [if_pos hb]
      refine List.pairwise_cons.2 ⟨fun b hb2 => ?_, h⟩
      rcases List.mem_cons.1 hb2 with rfl | hb2
      · rw [befB_true] at hb; rw [befB_false]; omega
      · have := h1 b hb2
        rw [befB_true] at hb; rw [befB_false] at this ⊢; omega
    · rw [if_neg hb]
      refine List.pairwise_cons.2 ⟨fun b hb2 => ?_, Sorted.ins o h2⟩
      rcases List.mem_cons.1 ((insO_perm o xs).subset hb2) with rfl | hb2
      · rw [Bool.not_eq_true] at hb; exact hb
      · exact h1 b hb2
theorem sortO_snoc (l : List Odr) (x : Odr) : sortO (l ++ [x]) = insO x (sortO l) := by unfold sortO; rw [List.foldl_append]; rfl
theorem rev_ind {p : List Odr → Prop} (h0 : p []) (h1 : ∀ l x, p l → p (l ++ [x])) (l : List Odr) : p l := by
  have : ∀ m : List Odr, p m.reverse := by
    intro m
    induction m with
    | nil => exact h0
    | cons x m ih => rw [List.reverse_cons]; exact h1 _ _ ih
  simpa using this l.reverse
theorem sortO_sorted (l : List Odr) : Sorted (sortO l) := by
  induction l using rev_ind with
  | h0 => exact List.Pairwise.nil
  | h1 l x ih => rw [sortO_snoc]; exact ih.ins x
theorem sortO_len (l : List Odr) : (sortO l).length = l.length := by
  induction l using rev_ind with
  | h0 => rfl
  | h1 l x ih => rw [sortO_snoc, insO_len, ih]; simp
theorem sortO_perm (l : List Odr) : (sortO l).Perm l := by
  induction l using rev_ind with
  | h0 => exact List.Perm.refl _
  | h1 l x ih =>
    rw [sortO_snoc]
    exact (insO_perm x _).trans ((ih.cons x).trans (List.perm_append_singleton x l).symm)
/-- Which orders stay beside a new one. -/
def restR (l : List Odr) (o : Odr) : List Odr := l.filter fun x => !hitR o.train o.kind x
theorem restR_take {l : List Odr} {k : Nat} {p : Odr} (o : Odr) (h : l[k]? = some p) : restR (l.take (k + 1)) o = restR (l.take k) o ++ (if hitR o.train o.kind p = true then [] else [p]) := by
  obtain ⟨hl, rfl⟩ := List.getElem?_eq_some_iff.1 h
  unfold restR
  rw [List.take_succ_eq_append_getElem hl, List.filter_append]
  congr 1
  cases hd : hitR o.train o.kind l[k] <;> simp [hd]
theorem restR_len (l : List Odr) (o : Odr) : (restR l o).length ≤ l.length := List.length_filter_le _ _
def badG (o : Odr) (now : Int) : Prop := o.train < 1 ∨ 99 < o.train ∨ evV o.kind = 0 ∨ o.until_ ≤ now
instance (o : Odr) (now : Int) : Decidable (badG o now) := by unfold badG; infer_instance
def givE (l : List Odr) (o : Odr) (now : Int) : Int := if badG o now then 1 else if 16 ≤ (restR l o).length then 16 else 0
def givL (l : List Odr) (o : Odr) (now : Int) : List Odr := if givE l o now = 0 then sortO (restR l o ++ [o]) else []
theorem giv_bad {l : List Odr} {o : Odr} {now : Int} (h : badG o now) : givE l o now = 1 ∧ givL l o now = [] := by
  have e : givE l o now = 1 := by rw [givE, if_pos h]
  exact ⟨e, by rw [givL, e, if_neg (by decide)]⟩
theorem giv_full {l : List Odr} {o : Odr} {now : Int} (h : ¬ badG o now) (hl : 16 ≤ (restR l o).length) : givE l o now = 16 ∧ givL l o now = [] := by
  have e : givE l o now = 16 := by rw [givE, if_neg h, if_pos hl]
  exact ⟨e, by rw [givL, e, if_neg (by decide)]⟩
theorem giv_ok {l : List Odr} {o : Odr} {now : Int} (h : ¬ badG o now) (hl : ¬ 16 ≤ (restR l o).length) : givE l o now = 0 ∧ givL l o now = sortO (restR l o ++ [o]) := by
  have e : givE l o now = 0 := by rw [givE, if_neg h, if_neg hl]
  exact ⟨e, by rw [givL, e, if_pos rfl]⟩
theorem evV_zero {k : Int} : evV k = 0 ↔ k ≠ 5 ∧ k ≠ 6 ∧ k ≠ 7 := by unfold evV; split <;> (try split) <;> (try split) <;> simp <;> omega

/-! ### The insertion sort of the library is this one. -/
open Go.Sort
theorem get_arr {l : List Odr} {i : Nat} {x : Odr} (h : l[i]? = some x) : l.toArray[i]! = x := by
  obtain ⟨hl, rfl⟩ := List.getElem?_eq_some_iff.1 h
  simp [hl]
theorem swp_mid (A R : List Odr) (x o : Odr) : swp (A ++ x :: o :: R).toArray (A.length + 1) A.length = (A ++ o :: x :: R).toArray := by
  have e1 : (A ++ x :: o :: R).toArray[A.length]! = x := get_arr (by simp)
  have e2 : (A ++ x :: o :: R).toArray[A.length + 1]! = o := get_arr (by rw [List.getElem?_append_right (by omega)]; simp)
  unfold swp
  rw [e1, e2]
  simp [List.set_append]
theorem insInner_is (o : Odr) : ∀ (n : Nat) (A R : List Odr), A.length = n → Sorted A → insInner befB 0 n (A ++ o :: R).toArray = (insO o A ++ R).toArray
  | 0, A, R, hA, _ => by
    obtain rfl := List.length_eq_zero_iff.1 hA
    rfl
  | n + 1, A, R, hA, hs => by
    obtain ⟨B, x, rfl⟩ : ∃ B x, A = B ++ [x] := ⟨A.dropLast, A.getLast (by intro h; subst h; simp at hA), (List.dropLast_concat_getLast _).symm⟩
    have hB : B.length = n := by simpa using hA
    obtain ⟨hs1, _, hs2⟩ := List.pairwise_append.1 hs
    have e1 : (B ++ [x] ++ o :: R).toArray[n + 1]! = o := get_arr (by rw [List.getElem?_append_right (by simp; omega)]; simp [hB])
    have e2 : (B ++ [x] ++ o :: R).toArray[n]! = x := get_arr (by rw [List.append_assoc, List.getElem?_append_right (by omega)]; simp [hB])
    unfold insInner
    rw [e1, e2]
    by_cases hb : befB o x = true
    · have hsw := swp_mid B R x o
      rw [hB] at hsw
      rw [if_pos (by simp [hb]), show B ++ [x] ++ o :: R = B ++ x :: o :: R by simp, hsw, insInner_is o n B (x :: R) hB hs1, insO_snoc hb]
      simp
    · rw [if_neg (by simp [hb])]
      rw [Bool.not_eq_true] at hb
      rw [insO_last (l := B ++ [x])]
      · simp
      · intro a ha
        rcases List.mem_append.1 ha with ha | ha
        · have := hs2 a ha x (by simp)
          rw [befB_false] at this hb ⊢; omega
        · simp at ha; subst ha; exact hb
theorem insOuter_is (l : List Odr) : ∀ (g i : Nat), l.length - i = g → i ≤ l.length → insOuter befB 0 l.length i (sortO (l.take i) ++ l.drop i).toArray = (sortO l).toArray
  | 0, i, hg, hi => by
    have : i = l.length := by omega
    subst this
    unfold insOuter
    simp
  | g + 1, i, hg, hi => by
    have hlt : i < l.length := by omega
    obtain ⟨o, ho⟩ : ∃ o, l[i]? = some o := ⟨_, List.getElem?_eq_getElem hlt⟩
    obtain ⟨hl, he⟩ := List.getElem?_eq_some_iff.1 ho
    have hd : l.drop i = o :: l.drop (i + 1) := by rw [List.drop_eq_getElem_cons hl, he]
    have ht : l.take (i + 1) = l.take i ++ [o] := by rw [List.take_succ_eq_append_getElem hl, he]
    have hlen : (sortO (l.take i)).length = i := by rw [sortO_len, List.length_take]; omega
    unfold insOuter
    rw [if_pos hlt, hd, insInner_is o i _ _ hlen (sortO_sorted _), ← sortO_snoc, ← ht]
    exact insOuter_is l g (i + 1) (by omega) (by omega)
theorem insertionSort_is (l : List Odr) : Go.Sort.insertionSort befB l.toArray 0 l.length = (sortO l).toArray := by
  unfold Go.Sort.insertionSort
  by_cases h : l.length = 0
  · obtain rfl := List.length_eq_zero_iff.1 h
    unfold insOuter; rfl
  · have := insOuter_is l (l.length - 1) 1 rfl (by omega)
    have e : sortO (l.take 1) ++ l.drop 1 = l := by
      cases l with
      | nil => simp at h
      | cons x xs => simp [sortO, insO]
    rw [e] at this
    exact this

/-! ### What is in force -/
theorem inV_perm {l m : List Odr} (h : l.Perm m) (t k now : Int) : inV l t k now = inV m t k now := by unfold inV; exact h.any_eq
theorem inV_exp {l : List Odr} {t k now later : Int} (h : now ≤ later) : inV (expR l now) t k later = inV l t k later := by
  unfold inV expR
  rw [List.any_filter]
  congr 1
  funext o
  unfold onR keepR
  by_cases h1 : later ≤ o.until_
  · rw [decide_eq_true (show now ≤ o.until_ by omega), Bool.true_and]
  · rw [decide_eq_false h1]; simp
theorem inV_rest {l : List Odr} {o : Odr} {t k later : Int} : inV (restR l o) t k later = if t = o.train ∧ k = o.kind then false else inV l t k later := by
  unfold inV restR
  rw [List.any_filter]
  by_cases h : t = o.train ∧ k = o.kind
  · rw [if_pos h, List.any_eq_false]
    intro x _
    obtain ⟨rfl, rfl⟩ := h
    unfold onR
    cases hitR o.train o.kind x <;> simp
  · rw [if_neg h]
    congr 1
    funext x
    unfold onR
    by_cases h2 : hitR t k x = true
    · have h3 : hitR o.train o.kind x = false := by
        rw [← Bool.not_eq_true]; intro h3
        rw [hitR_true] at h2 h3
        exact h ⟨by omega, by omega⟩
      rw [h2, h3]; rfl
    · rw [Bool.not_eq_true] at h2; rw [h2]; simp
theorem inV_give {l : List Odr} {o : Odr} {now t k later : Int} (h : givE l o now = 0) :
    inV (givL l o now) t k later = if t = o.train ∧ k = o.kind then decide (later ≤ o.until_) else inV l t k later := by
  rw [givL, if_pos h, inV_perm (sortO_perm _)]
  have e : inV (restR l o ++ [o]) t k later = (inV (restR l o) t k later || onR t k later o) := by unfold inV; simp
  rw [e, inV_rest]
  by_cases h2 : t = o.train ∧ k = o.kind
  · rw [if_pos h2, if_pos h2, Bool.false_or]
    unfold onR
    rw [hitR_true.2 ⟨h2.1.symm, h2.2.symm⟩, Bool.true_and]
  · rw [if_neg h2, if_neg h2]
    have : hitR t k o = false := by
      rw [← Bool.not_eq_true]; intro h3; rw [hitR_true] at h3; exact h2 ⟨h3.1.symm, h3.2.symm⟩
    unfold onR
    rw [this]; simp

/-! ### Strictly ascending lists -/
def Strict (l : List Odr) : Prop := l.Pairwise fun a b => befB a b = true
theorem Strict.sorted {l : List Odr} (h : Strict l) : Sorted l := h.imp fun {a b} h => by rw [befB_true] at h; rw [befB_false]; omega
theorem sortO_of_strict (l : List Odr) (h : Strict l) : sortO l = l := by
  induction l using rev_ind with
  | h0 => rfl
  | h1 l x ih =>
    obtain ⟨h1, _, h2⟩ := List.pairwise_append.1 h
    rw [sortO_snoc, ih h1]
    exact insO_last fun a ha => by
      have := h2 a ha x (by simp)
      rw [befB_true] at this; rw [befB_false]; omega
theorem Strict.ins {o : Odr} : ∀ {l : List Odr}, Strict l → (∀ a ∈ l, hitR o.train o.kind a = false) → Strict (insO o l)
  | [], _, _ => List.pairwise_singleton _ _
  | x :: xs, h, hn => by
    obtain ⟨h1, h2⟩ := List.pairwise_cons.1 h
    unfold insO
    by_cases hb : befB o x = true
    · rw [if_pos hb]
      refine List.pairwise_cons.2 ⟨fun b hb2 => ?_, h⟩
      rcases List.mem_cons.1 hb2 with rfl | hb2
      · exact hb
      · have := h1 b hb2
        rw [befB_true] at hb this ⊢; omega
    · rw [if_neg hb]
      refine List.pairwise_cons.2 ⟨fun b hb2 => ?_, Strict.ins h2 fun a ha => hn a (by simp [ha])⟩
      rcases List.mem_cons.1 ((insO_perm o xs).subset hb2) with rfl | hb2
      · have h3 := hn x (by simp)
        rw [Bool.not_eq_true, befB_false] at hb
        rw [← Bool.not_eq_true, hitR_true] at h3
        rw [befB_true]; omega
      · exact h1 b hb2
theorem give_strict {l : List Odr} {o : Odr} {now : Int} (h : Strict l) : Strict (givL l o now) := by
  unfold givL
  split
  · have hr : Strict (restR l o) := List.Pairwise.filter _ h
    rw [sortO_snoc, sortO_of_strict _ hr]
    refine hr.ins fun a ha => ?_
    have := (List.mem_filter.1 ha).2
    simpa using this
  · exact List.Pairwise.nil
theorem give_len {l : List Odr} {o : Odr} {now : Int} : (givL l o now).length ≤ 16 := by
  unfold givL
  split
  · rename_i h
    rw [sortO_len]
    unfold givE at h
    split at h
    · omega
    · split at h
      · omega
      · simp; omega
  · simp
theorem give_full {l : List Odr} {o : Odr} {now : Int} (h : givE l o now = 16) : 16 ≤ l.length := by
  unfold givE at h
  split at h
  · omega
  · split at h
    · have := restR_len l o; omega
    · omega
end Sg
