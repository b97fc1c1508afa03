/- Plain law of MotionReads: what the reference finds is what is read. No program in sight. -/
import Derived.Test.YticonpjkcocgeaaDoorPOrd5
import Derived.Test.YticonpjkcocgeaaDoorPMrg
set_option linter.unusedVariables false
set_option linter.unusedSimpArgs false
namespace Sg

/-- Does a step pass the balises of its element, and where? (as the reference asks) -/
def rpasB (els : List Elm) (s : Stp) : Bool := ((elAt els s.el).kind == 1) || (s.in_ + s.out_ == 1)
def rplc (els : List Elm) (s : Stp) (b : Bls) : Int := if s.in_ = 1 then lenOf els s - b.off else b.off
def ofB (els : List Elm) (s : Stp) (at_ end_ : Int) (b : Bls) : Bool := (b.el == s.el) && rpasB els s && decide (at_ + rplc els s b ≤ end_)
def ofL (els : List Elm) (s : Stp) (at_ end_ : Int) (bals : List Bls) : List Pas := (bals.filter (ofB els s at_ end_)).map fun b => ⟨at_ + rplc els s b, b.id⟩
theorem ofL_step {els : List Elm} {s : Stp} {at_ end_ : Int} {bals : List Bls} {j : Nat} {b : Bls} (h : bals[j]? = some b) :
    ofL els s at_ end_ (bals.take (j + 1)) = if ofB els s at_ end_ b = true then ofL els s at_ end_ (bals.take j) ++ [⟨at_ + rplc els s b, b.id⟩] else ofL els s at_ end_ (bals.take j) := by
  obtain ⟨hl, rfl⟩ := List.getElem?_eq_some_iff.1 h
  rw [List.take_succ_eq_append_getElem hl]
  unfold ofL
  rw [List.filter_append, List.map_append]
  split
  · rename_i hb; simp [hb]
  · rename_i hb; simp [hb]
theorem ofL_len (els : List Elm) (s : Stp) (at_ end_ : Int) (bals : List Bls) : (ofL els s at_ end_ bals).length ≤ bals.length := by
  unfold ofL; rw [List.length_map]; exact List.length_filter_le _ _
theorem ofL_mem {els : List Elm} {s : Stp} {at_ end_ : Int} {bals : List Bls} {p : Pas} (h : p ∈ ofL els s at_ end_ bals) : ∃ b ∈ bals, p = ⟨at_ + rplc els s b, b.id⟩ ∧ at_ + rplc els s b ≤ end_ ∧ b.el = s.el := by
  unfold ofL at h
  obtain ⟨b, hb, rfl⟩ := List.mem_map.1 h
  obtain ⟨h1, h2⟩ := List.mem_filter.1 hb
  unfold ofB at h2
  simp at h2
  exact ⟨b, h1, rfl, h2.2, h2.1.1⟩
/-- The last place of a step in the first k of a list, -1 if there is none. -/
def latI (way : List Stp) (s : Stp) : Nat → Int
  | 0 => -1
  | k + 1 => if (way.getD k Stp.z).el = s.el ∧ (way.getD k Stp.z).in_ = s.in_ ∧ (way.getD k Stp.z).out_ = s.out_ then (k : Int) else latI way s k
theorem latI_step {way : List Stp} {s x : Stp} {k : Nat} (h : way[k]? = some x) : latI way s (k + 1) = if x.el = s.el ∧ x.in_ = s.in_ ∧ x.out_ = s.out_ then (k : Int) else latI way s k := by
  rw [latI, List.getD_eq_getElem?_getD, h]; rfl
theorem latI_bd (way : List Stp) (s : Stp) : ∀ k, -1 ≤ latI way s k ∧ latI way s k < (k : Int)
  | 0 => by simp [latI]
  | k + 1 => by
    have := latI_bd way s k
    rw [latI]
    split <;> omega
theorem latI_no {way : List Stp} {s : Stp} (h : ∀ (j : Nat) t, way[j]? = some t → t ≠ s) : ∀ k, k ≤ way.length → latI way s k = -1
  | 0, _ => rfl
  | k + 1, hk => by
    have hs : way[k]? = some (way[k]'(by omega)) := List.getElem?_eq_getElem (by omega)
    rw [latI_step hs, if_neg (fun g => h k _ hs (Stp.eq' g.1 g.2.1 g.2.2)), latI_no h k (by omega)]
theorem latI_at {way : List Stp} {s : Stp} {i : Nat} (hi : way[i]? = some s) (hd : ∀ (i j : Nat) x y, i < j → way[i]? = some x → way[j]? = some y → x.el ≠ y.el) : ∀ k, k ≤ way.length → latI way s k = if i < k then (i : Int) else -1
  | 0, _ => rfl
  | k + 1, hk => by
    have hs : way[k]? = some (way[k]'(by omega)) := List.getElem?_eq_getElem (by omega)
    rw [latI_step hs, latI_at hi hd k (by omega)]
    rcases Nat.lt_trichotomy i k with h | h | h
    · rw [if_neg (fun g => hd i k s _ h hi hs g.1.symm), if_pos h, if_pos (by omega)]
    · subst h
      have : way[i]'(by omega) = s := by rw [hs] at hi; exact Option.some.inj hi
      rw [if_pos (by rw [this]; exact ⟨rfl, rfl, rfl⟩), if_pos (by omega)]
    · rw [if_neg (fun g => hd k i _ s h hs hi g.1), if_neg (by omega), if_neg (by omega)]
theorem latI_is {way : List Stp} {s : Stp} (hd : ∀ (i j : Nat) x y, i < j → way[i]? = some x → way[j]? = some y → x.el ≠ y.el) : latI way s way.length = idxS way s := by
  by_cases h : s ∈ way
  · obtain ⟨i, hi, e⟩ := List.getElem_of_mem h
    have hs : way[i]? = some s := by rw [List.getElem?_eq_getElem hi, e]
    rw [latI_at hs hd _ (Nat.le_refl _), if_pos hi, idxS_is hs hd]
  · have hn : ∀ (j : Nat) t, way[j]? = some t → t ≠ s := fun j t ht e => h (by rw [← e]; exact List.mem_of_getElem? ht)
    rw [latI_no hn _ (Nat.le_refl _), idxS_no hn]
/-- What is kept of the balises of the step i. -/
def gtB (fr head : Int) (i : Nat) (at_ : Int) (p : Pas) : Bool := decide (fr < (i : Int)) || ((i : Int) == fr && decide (at_ + head < p.place))
def fndI (els : List Elm) (fr head front : Int) (bals : List Bls) (way : List Stp) (i : Nat) : List Pas := (sortP (ofL els (way.getD i Stp.z) (sumL els (way.take i)) front bals)).filter (gtB fr head i (sumL els (way.take i)))
def fndT (els : List Elm) (fr head front : Int) (bals : List Bls) (way : List Stp) : Nat → List Pas
  | 0 => []
  | k + 1 => fndT els fr head front bals way k ++ fndI els fr head front bals way k
theorem fndI_at {els : List Elm} {fr head front : Int} {bals : List Bls} {way : List Stp} {i : Nat} {s : Stp} (h : way[i]? = some s) : fndI els fr head front bals way i = (sortP (ofL els s (sumL els (way.take i)) front bals)).filter (gtB fr head i (sumL els (way.take i))) := by
  unfold fndI; rw [List.getD_eq_getElem?_getD, h]; rfl
theorem fndI_len (els : List Elm) (fr head front : Int) (bals : List Bls) (way : List Stp) (i : Nat) : (fndI els fr head front bals way i).length ≤ bals.length := by
  unfold fndI
  refine Nat.le_trans (List.length_filter_le _ _) ?_
  rw [sortP_len]; exact ofL_len _ _ _ _ _
theorem fndT_len (els : List Elm) (fr head front : Int) (bals : List Bls) (way : List Stp) : ∀ k, (fndT els fr head front bals way k).length ≤ k * bals.length
  | 0 => by simp [fndT]
  | k + 1 => by
    have h1 := fndT_len els fr head front bals way k
    have h2 := fndI_len els fr head front bals way k
    unfold fndT
    rw [List.length_append, Nat.succ_mul]; omega
/-- The sorted list of what was found before and of the first j of what a step gives, of which some are kept. -/
theorem filt_take {l : List Pas} {q : Pas → Bool} {j : Nat} {p : Pas} (h : l[j]? = some p) : (l.take (j + 1)).filter q = if q p = true then (l.take j).filter q ++ [p] else (l.take j).filter q := by
  obtain ⟨hl, rfl⟩ := List.getElem?_eq_some_iff.1 h
  rw [List.take_succ_eq_append_getElem hl, List.filter_append]
  split
  · rename_i hb; simp [hb]
  · rename_i hb; simp [hb]
theorem fm_congr {β γ : Type} {p q : β → Bool} {f g : β → γ} : ∀ {l : List β}, (∀ b ∈ l, p b = q b ∧ (q b = true → f b = g b)) → (l.filter p).map f = (l.filter q).map g
  | [], _ => rfl
  | b :: l, h => by
    have h0 := h b (by simp)
    have ih := fm_congr (l := l) fun x hx => h x (by simp [hx])
    rw [List.filter_cons, List.filter_cons, h0.1]
    by_cases hq : q b = true
    · rw [if_pos hq, if_pos hq, List.map_cons, List.map_cons, h0.2 hq, ih]
    · rw [if_neg hq, if_neg hq, ih]
theorem rpas_is {els : List Elm} {s : Stp} {b : Bls} (hs : StepOk els s) (he : b.el = s.el) : rpasB els s = placeB s b := by
  have hn := hs.2
  have e : ((s.el == b.el) : Bool) = true := by simp [he]
  unfold rpasB placeB
  rw [e]
  generalize (elAt els s.el).kind = kd at hn
  unfold needB needO at hn
  rw [Bool.eq_iff_iff]
  simp only [Bool.or_eq_true, Bool.and_eq_true, beq_iff_eq, true_and]
  split at hn
  · omega
  · split at hn
    · omega
    · split at hn
      · omega
      · split at hn
        · omega
        · simp at hn
theorem rplc_is {els : List Elm} {s : Stp} {b : Bls} (h : placeB s b = true) : placeV els s b = rplc els s b := by
  unfold placeV rplc
  rw [if_pos h]
  unfold placeB at h
  simp at h
  split
  · rw [if_neg (by omega)]
  · rw [if_pos (by omega)]
theorem fnd_pass {els : List Elm} {fr head front : Int} {bals : List Bls} {way : List Stp} {i : Nat} {s : Stp} (hi : way[i]? = some s) (hs : StepOk els s) : (fndI els fr head front bals way i).Perm ((passI els fr head bals way i).filter fun p => decide (p.place ≤ front)) := by
  rw [fndI_at hi]
  refine ((sortP_perm _).filter _).trans ?_
  by_cases hf : fr ≤ (i : Int)
  · rw [passI_at hi hf]
    unfold ofL passL
    rw [List.filter_map, List.filter_map, List.filter_filter, List.filter_filter]
    refine List.Perm.of_eq (fm_congr fun b hb => ?_)
    by_cases he : b.el = s.el
    · have h1 := rpas_is hs he
      by_cases hp : placeB s b = true
      · have h2 := rplc_is (els := els) hp
        rw [hp] at h1
        refine ⟨?_, fun _ => by rw [h2]⟩
        unfold ofB passB gtB
        rw [Bool.eq_iff_iff]
        simp only [Function.comp, Bool.or_eq_true, Bool.and_eq_true, beq_iff_eq, decide_eq_true_eq, h1, hp, h2, he, true_and, and_true]
        omega
      · rw [Bool.not_eq_true] at hp
        rw [hp] at h1
        have e1 : ofB els s (sumL els (way.take i)) front b = false := by unfold ofB; rw [h1]; simp
        have e2 : passB els fr head i s b = false := by unfold passB; rw [hp]; rfl
        rw [e1, e2]
        simp
    · have e1 : ofB els s (sumL els (way.take i)) front b = false := by unfold ofB; simp [he]
      have e2 : passB els fr head i s b = false := by unfold passB placeB; simp [Ne.symm he]
      rw [e1, e2]
      simp
  · rw [passI_no hf, List.filter_nil]
    have : (ofL els s (sumL els (way.take i)) front bals).filter (gtB fr head i (sumL els (way.take i))) = [] := by
      rw [List.filter_eq_nil_iff]
      intro p _
      unfold gtB
      simp
      omega
    rw [this]
theorem fndT_pass {els : List Elm} {fr head front : Int} {bals : List Bls} {way : List Stp} (hw : ∀ (i : Nat) s, way[i]? = some s → StepOk els s) : ∀ k, k ≤ way.length → (fndT els fr head front bals way k).Perm ((passT els fr head bals way k).filter fun p => decide (p.place ≤ front))
  | 0, _ => List.Perm.refl _
  | k + 1, hk => by
    have hs : way[k]? = some (way[k]'(by omega)) := List.getElem?_eq_getElem (by omega)
    unfold fndT passT
    rw [List.filter_append]
    exact (fndT_pass hw k (by omega)).append (fnd_pass hs (hw k _ hs))
def linF (front : Int) (l : List Pas) : List Rea := l.map fun p => ⟨p.id, front - p.place⟩
/-- What the reference reads is what is read. -/
theorem ref_reads {els : List Elm} {jts : List Jnt} {bals : List Bls} {l1 l2 : List Stp} {head1 front : Int} (hw : Way els jts l2) :
    linF front (sortP (fndT els (latI l2 (lastS l1) l2.length) head1 front bals l2 l2.length)) = reaF front (sortP (passA els bals l1 head1 l2)) := by
  unfold linF reaF
  congr 1
  rw [latI_is (way_dist hw)]
  refine (sortP_is ?_ ?_).symm
  · exact (sortP_sorted _).filter _
  · exact ((sortP_perm _).filter _).trans (fndT_pass (fun i s h => hw.step h) _ (Nat.le_refl _)).symm
end Sg
