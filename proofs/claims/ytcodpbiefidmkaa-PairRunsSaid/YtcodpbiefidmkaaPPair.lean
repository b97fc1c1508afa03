/- Plain mathematics of requests that two persons confirm. No program in sight. -/
import Derived.Test.YtcodpbiefidmkaaPTrain
set_option linter.unusedVariables false
set_option linter.unusedSimpArgs false
namespace Sg

/-- A request. -/
structure Prq where
  kind : Int
  subject : Int
  since : Int
  by_ : ByteArray
theorem Prq.eq {a b : Prq} (h1 : a.kind = b.kind) (h2 : a.subject = b.subject) (h3 : a.since = b.since) (h4 : a.by_ = b.by_) : a = b := by
  cases a; cases b; simp_all
def Prq.z : Prq := ⟨0, 0, 0, ⟨#[]⟩⟩
def hitP (k s : Int) (p : Prq) : Bool := p.kind == k && p.subject == s
theorem hitP_true {k s : Int} {p : Prq} : hitP k s p = true ↔ p.kind = k ∧ p.subject = s := by unfold hitP; rw [Bool.and_eq_true, beq_iff_eq, beq_iff_eq]
def dueB (p : Prq) (now : Int) : Bool := decide (now < p.since) || decide (10 < now - p.since)
theorem dueB_true {p : Prq} {now : Int} : dueB p now = true ↔ now < p.since ∨ 10 < now - p.since := by unfold dueB; rw [Bool.or_eq_true, decide_eq_true_iff, decide_eq_true_iff]
/-- The place of the first request for a subject. -/
def idxO (k s : Int) (l : List Prq) : Option Nat := l.findIdx? (hitP k s)
def idxV (k s : Int) (l : List Prq) : Int := match idxO k s l with | some i => i | none => -1
theorem idxO_some {k s : Int} {l : List Prq} {i : Nat} {p : Prq} (hi : l[i]? = some p) (h : hitP k s p = true) (hn : ∀ (j : Nat) t, j < i → l[j]? = some t → hitP k s t = false) : idxO k s l = some i := by
  obtain ⟨hl, rfl⟩ := List.getElem?_eq_some_iff.1 hi
  unfold idxO
  rw [List.findIdx?_eq_some_iff_getElem]
  exact ⟨hl, h, fun j hj => by rw [hn j _ hj (List.getElem?_eq_getElem (by omega))]; simp⟩
theorem idxO_none {k s : Int} {l : List Prq} (hn : ∀ (j : Nat) t, l[j]? = some t → hitP k s t = false) : idxO k s l = none := by
  unfold idxO
  rw [List.findIdx?_eq_none_iff]
  intro x hx
  obtain ⟨j, hj, rfl⟩ := List.getElem_of_mem hx
  exact hn j _ (List.getElem?_eq_getElem hj)
theorem idxO_at {k s : Int} {l : List Prq} {i : Nat} (h : idxO k s l = some i) : ∃ p, l[i]? = some p ∧ hitP k s p = true ∧ ∀ (j : Nat) t, j < i → l[j]? = some t → hitP k s t = false := by
  unfold idxO at h
  rw [List.findIdx?_eq_some_iff_getElem] at h
  obtain ⟨hl, h1, h2⟩ := h
  refine ⟨l[i], List.getElem?_eq_getElem hl, h1, fun j t hj ht => ?_⟩
  obtain ⟨hl', rfl⟩ := List.getElem?_eq_some_iff.1 ht
  have := h2 j hj
  simpa using this
theorem idxV_some {k s : Int} {l : List Prq} {i : Nat} (h : idxO k s l = some i) : idxV k s l = i := by unfold idxV; rw [h]
theorem idxV_none {k s : Int} {l : List Prq} (h : idxO k s l = none) : idxV k s l = -1 := by unfold idxV; rw [h]
/-- Ask: its error and its list. -/
def okAsk (p : Prq) : Prop := 1 ≤ p.kind ∧ p.kind ≤ 8 ∧ 0 ≤ p.subject ∧ 0 ≤ p.since ∧ nameB p.by_.data.toList = true
instance (p : Prq) : Decidable (okAsk p) := by unfold okAsk; infer_instance
def askE (l : List Prq) (p : Prq) : Int := if ¬ okAsk p then 1 else if (idxO p.kind p.subject l).isSome then 8 else if 16 ≤ l.length then 16 else 0
def askL (l : List Prq) (p : Prq) : List Prq := if askE l p = 0 then l ++ [p] else []
/-- Confirm: its error, its list, its request. -/
def conE (l : List Prq) (k s : Int) (by_ : ByteArray) (now : Int) : Int :=
  match idxO k s l with
  | none => 9
  | some i => if dueB (l.getD i Prq.z) now = true then 15 else if nameB by_.data.toList = false then 1 else if by_ = (l.getD i Prq.z).by_ then 13 else 0
def conL (l : List Prq) (k s : Int) (by_ : ByteArray) (now : Int) : List Prq :=
  if conE l k s by_ now = 0 then match idxO k s l with | none => [] | some i => l.eraseIdx i else []
def conP (l : List Prq) (k s : Int) (by_ : ByteArray) (now : Int) : Prq :=
  if conE l k s by_ now = 0 then match idxO k s l with | none => Prq.z | some i => l.getD i Prq.z else Prq.z
def expL (l : List Prq) (now : Int) : List Prq := l.filter fun p => !dueB p now
theorem expL_take {l : List Prq} {k : Nat} {p : Prq} (now : Int) (h : l[k]? = some p) : expL (l.take (k + 1)) now = expL (l.take k) now ++ (if dueB p now = true then [] else [p]) := by
  obtain ⟨hl, rfl⟩ := List.getElem?_eq_some_iff.1 h
  unfold expL
  rw [List.take_succ_eq_append_getElem hl, List.filter_append]
  congr 1
  cases hd : dueB l[k] now <;> simp [hd]
theorem expL_len (l : List Prq) (now : Int) : (expL l now).length ≤ l.length := List.length_filter_le _ _
end Sg
