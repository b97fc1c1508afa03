/- Plain mathematics of layouts, ways and speed restrictions. No program in sight. -/
import Derived.Test.YtoodehilgogomaaDoorPLimit
set_option linter.unusedVariables false
set_option linter.unusedSimpArgs false
namespace Sg

structure Rst where
  id : Int
  el : Int
  from_ : Int
  to_ : Int
  speed : Int
  act : Bool
theorem Rst.eq {a b : Rst} (h1 : a.id = b.id) (h2 : a.el = b.el) (h3 : a.from_ = b.from_) (h4 : a.to_ = b.to_) (h5 : a.speed = b.speed) (h6 : a.act = b.act) : a = b := by
  cases a; cases b; simp_all
def Rst.z : Rst := ⟨0, 0, 0, 0, 0, false⟩
structure Elm where
  name : ByteArray
  kind : Int
  len : Int
  grade : Int
  speed : Int
  slow : Int
  sec : Int
def Elm.z : Elm := ⟨⟨#[]⟩, 0, 0, 0, 0, 0, 0⟩
structure Jnt where
  ae : Int
  as_ : Int
  be : Int
  bs : Int
structure Sgl where
  name : ByteArray
  el : Int
  side : Int
  ovl : Int
structure Bls where
  id : Int
  el : Int
  off : Int
structure Stp where
  el : Int
  in_ : Int
  out_ : Int
def Stp.z : Stp := ⟨0, 0, 0⟩
/-- An end: an element and its side. -/
structure End where
  el : Int
  side : Int
theorem End.eq {a b : End} (h1 : a.el = b.el) (h2 : a.side = b.side) : a = b := by cases a; cases b; simp_all
/-- The element with a number. -/
def elAt (els : List Elm) (i : Int) : Elm := els.getD i.toNat Elm.z
def hasEl (els : List Elm) (i : Int) : Prop := 0 ≤ i ∧ i < els.length
instance (els : List Elm) (i : Int) : Decidable (hasEl els i) := by unfold hasEl; infer_instance
theorem elAt_of {els : List Elm} {k : Nat} {x : Elm} (h : els[k]? = some x) : elAt els (k : Int) = x := by
  unfold elAt; rw [Int.toNat_natCast, List.getD_eq_getElem?_getD, h]; rfl
/-- Restrictions: what Check asks. -/
def OkR (els : List Elm) (r : Rst) : Prop := 1 ≤ r.id ∧ r.id ≤ 1073741824 ∧ 0 ≤ r.el ∧ r.el < els.length ∧ 0 ≤ r.from_ ∧ r.from_ < r.to_ ∧ r.to_ ≤ (elAt els r.el).len ∧ 100 ≤ r.speed ∧ r.speed ≤ 10000
instance (els : List Elm) (r : Rst) : Decidable (OkR els r) := by unfold OkR; infer_instance
def chkE (els : List Elm) (r : Rst) : Int := if OkR els r then 0 else 1
theorem chkE_zero {els : List Elm} {r : Rst} : chkE els r = 0 ↔ OkR els r := by unfold chkE; split <;> simp_all
def hitR (k : Int) (r : Rst) : Bool := r.id == k
/-- The place of the first restriction with a number. -/
def idxR (k : Int) (l : List Rst) : Option Nat := l.findIdx? (hitR k)
def idxRV (k : Int) (l : List Rst) : Int := match idxR k l with | some i => i | none => -1
theorem idxR_some {k : Int} {l : List Rst} {i : Nat} {p : Rst} (hi : l[i]? = some p) (h : hitR k p = true) (hn : ∀ (j : Nat) t, j < i → l[j]? = some t → hitR k t = false) : idxR k l = some i := by
  obtain ⟨hl, rfl⟩ := List.getElem?_eq_some_iff.1 hi
  unfold idxR
  rw [List.findIdx?_eq_some_iff_getElem]
  exact ⟨hl, h, fun j hj => by rw [hn j _ hj (List.getElem?_eq_getElem (by omega))]; simp⟩
theorem idxR_none {k : Int} {l : List Rst} (hn : ∀ (j : Nat) t, l[j]? = some t → hitR k t = false) : idxR k l = none := by
  unfold idxR
  rw [List.findIdx?_eq_none_iff]
  intro x hx
  obtain ⟨j, hj, rfl⟩ := List.getElem_of_mem hx
  exact hn j _ (List.getElem?_eq_getElem hj)
theorem idxR_at {k : Int} {l : List Rst} {i : Nat} (h : idxR k l = some i) : ∃ p, l[i]? = some p ∧ hitR k p = true ∧ ∀ (j : Nat) t, j < i → l[j]? = some t → hitR k t = false := by
  unfold idxR at h
  rw [List.findIdx?_eq_some_iff_getElem] at h
  obtain ⟨hl, h1, h2⟩ := h
  refine ⟨l[i], List.getElem?_eq_getElem hl, h1, fun j t hj ht => ?_⟩
  obtain ⟨hl', rfl⟩ := List.getElem?_eq_some_iff.1 ht
  have := h2 j hj
  simpa using this
theorem idxR_no {k : Int} {l : List Rst} (h : idxR k l = none) : ∀ (j : Nat) t, l[j]? = some t → hitR k t = false := fun j t ht => by
  unfold idxR at h
  rw [List.findIdx?_eq_none_iff] at h
  obtain ⟨hl', rfl⟩ := List.getElem?_eq_some_iff.1 ht
  exact h _ (List.getElem_mem _)
theorem idxRV_some {k : Int} {l : List Rst} {i : Nat} (h : idxR k l = some i) : idxRV k l = i := by unfold idxRV; rw [h]
theorem idxRV_none {k : Int} {l : List Rst} (h : idxR k l = none) : idxRV k l = -1 := by unfold idxRV; rw [h]
/-- The place where a restriction belongs: before the first with a greater number. -/
def gtR (k : Int) (r : Rst) : Bool := decide (k < r.id)
def gtO (k : Int) (l : List Rst) : Option Nat := l.findIdx? (gtR k)
def gtV (k : Int) (l : List Rst) : Int := match gtO k l with | some i => i | none => -1
def plcR (k : Int) (l : List Rst) : Nat := match gtO k l with | some i => i | none => l.length
theorem gtO_some {k : Int} {l : List Rst} {i : Nat} {p : Rst} (hi : l[i]? = some p) (h : gtR k p = true) (hn : ∀ (j : Nat) t, j < i → l[j]? = some t → gtR k t = false) : gtO k l = some i := by
  obtain ⟨hl, rfl⟩ := List.getElem?_eq_some_iff.1 hi
  unfold gtO
  rw [List.findIdx?_eq_some_iff_getElem]
  exact ⟨hl, h, fun j hj => by rw [hn j _ hj (List.getElem?_eq_getElem (by omega))]; simp⟩
theorem gtO_none {k : Int} {l : List Rst} (hn : ∀ (j : Nat) t, l[j]? = some t → gtR k t = false) : gtO k l = none := by
  unfold gtO
  rw [List.findIdx?_eq_none_iff]
  intro x hx
  obtain ⟨j, hj, rfl⟩ := List.getElem_of_mem hx
  exact hn j _ (List.getElem?_eq_getElem hj)
theorem plcR_le (k : Int) (l : List Rst) : plcR k l ≤ l.length := by
  unfold plcR
  cases h : gtO k l with
  | none => exact Nat.le_refl _
  | some i =>
    unfold gtO at h
    rw [List.findIdx?_eq_some_iff_getElem] at h
    obtain ⟨hl, _⟩ := h
    show i ≤ l.length; omega
theorem gtV_some {k : Int} {l : List Rst} {i : Nat} (h : gtO k l = some i) : gtV k l = i ∧ plcR k l = i := by unfold gtV plcR; rw [h]; exact ⟨rfl, rfl⟩
theorem gtV_none {k : Int} {l : List Rst} (h : gtO k l = none) : gtV k l = -1 ∧ plcR k l = l.length := by unfold gtV plcR; rw [h]; exact ⟨rfl, rfl⟩
theorem plcR_of {k : Int} {l : List Rst} {i : Nat} (hi : i ≤ l.length) (hn : ∀ (j : Nat) t, j < i → l[j]? = some t → gtR k t = false) (hs : ∀ t, l[i]? = some t → gtR k t = true) : plcR k l = i := by
  by_cases e : i < l.length
  · exact (gtV_some (gtO_some (List.getElem?_eq_getElem e) (hs _ (List.getElem?_eq_getElem e)) hn)).2
  · have : i = l.length := by omega
    subst this
    exact (gtV_none (gtO_none fun j t ht => hn j t (List.getElem?_eq_some_iff.1 ht).1 ht)).2
def offR (r : Rst) : Rst := { r with act := false }
def putE (els : List Elm) (l : List Rst) (r : Rst) : Int := if ¬ OkR els r then 1 else if (idxR r.id l).isSome then 8 else if 16 ≤ l.length then 16 else 0
def putL (els : List Elm) (l : List Rst) (r : Rst) : List Rst := if putE els l r = 0 then l.take (plcR r.id l) ++ [offR r] ++ l.drop (plcR r.id l) else []
theorem put_bad {els : List Elm} {l : List Rst} {r : Rst} (h : ¬ OkR els r) : putE els l r = 1 ∧ putL els l r = [] := by
  have e : putE els l r = 1 := by rw [putE, if_pos h]
  exact ⟨e, by rw [putL, e, if_neg (by decide)]⟩
theorem put_dup {els : List Elm} {l : List Rst} {r : Rst} {i : Nat} (h : OkR els r) (hi : idxR r.id l = some i) : putE els l r = 8 ∧ putL els l r = [] := by
  have e : putE els l r = 8 := by rw [putE, if_neg (fun k => k h), hi]; rfl
  exact ⟨e, by rw [putL, e, if_neg (by decide)]⟩
theorem put_full {els : List Elm} {l : List Rst} {r : Rst} (h : OkR els r) (hi : idxR r.id l = none) (hl : 16 ≤ l.length) : putE els l r = 16 ∧ putL els l r = [] := by
  have e : putE els l r = 16 := by rw [putE, if_neg (fun k => k h), hi, if_neg (by simp), if_pos hl]
  exact ⟨e, by rw [putL, e, if_neg (by decide)]⟩
theorem put_ok {els : List Elm} {l : List Rst} {r : Rst} (h : OkR els r) (hi : idxR r.id l = none) (hl : ¬ 16 ≤ l.length) : putE els l r = 0 ∧ putL els l r = l.take (plcR r.id l) ++ [offR r] ++ l.drop (plcR r.id l) := by
  have e : putE els l r = 0 := by rw [putE, if_neg (fun k => k h), hi, if_neg (by simp), if_neg hl]
  exact ⟨e, by rw [putL, e, if_pos rfl]⟩
/-- Set: in force, or removed. -/
def setE (l : List Rst) (id : Int) (a : Bool) : Int := match idxR id l with
  | none => 9
  | some i => if a = true ∧ (l.getD i Rst.z).act = true then 11 else 0
def onR (r : Rst) : Rst := { r with act := true }
def setL (l : List Rst) (id : Int) (a : Bool) : List Rst := match idxR id l with
  | none => []
  | some i => if a = true then (if (l.getD i Rst.z).act = true then [] else l.set i (onR (l.getD i Rst.z))) else l.eraseIdx i
/-- The part of a step that begins at c which a restriction concerns. -/
def fwdS (els : List Elm) (s : Stp) : Bool := s.in_ == 0 || (s.in_ == 2 && (elAt els s.el).kind == 3)
def partA (els : List Elm) (s : Stp) (c : Int) (r : Rst) : Int := if fwdS els s = true then c + r.from_ else c + (elAt els s.el).len - r.to_
def partZ (els : List Elm) (s : Stp) (c : Int) (r : Rst) : Int := if fwdS els s = true then c + r.to_ else c + (elAt els s.el).len - r.from_
/-- One restriction: along the way, from the coordinate c on. -/
noncomputable def lowF (els : List Elm) (r : Rst) : List Stp → Int → List Sgm → List Sgm
  | [], _, p => p
  | s :: ss, c, p => lowF els r ss (c + (elAt els s.el).len) (if s.el = r.el then limL p (partA els s c r) (partZ els s c r) r.speed else p)
/-- Where the way's step k begins. -/
def begF (els : List Elm) (way : List Stp) (c : Int) (k : Nat) : Int := (way.take k).foldl (fun a s => a + (elAt els s.el).len) c
theorem begF_succ {els : List Elm} {way : List Stp} {c : Int} {k : Nat} {s : Stp} (h : way[k]? = some s) : begF els way c (k + 1) = begF els way c k + (elAt els s.el).len := by
  obtain ⟨hl, rfl⟩ := List.getElem?_eq_some_iff.1 h
  unfold begF
  rw [List.take_succ_eq_append_getElem hl, List.foldl_append]
  rfl
theorem lowF_append (els : List Elm) (r : Rst) : ∀ (a b : List Stp) (c : Int) (p : List Sgm), lowF els r (a ++ b) c p = lowF els r b (a.foldl (fun a s => a + (elAt els s.el).len) c) (lowF els r a c p)
  | [], b, c, p => rfl
  | s :: a, b, c, p => by
    have := lowF_append els r a b (c + (elAt els s.el).len) (if s.el = r.el then limL p (partA els s c r) (partZ els s c r) r.speed else p)
    exact this
noncomputable def lowTo (els : List Elm) (r : Rst) (way : List Stp) (c : Int) (k : Nat) (p : List Sgm) : List Sgm := lowF els r (way.take k) c p
theorem lowTo_succ {els : List Elm} {r : Rst} {way : List Stp} {c : Int} {k : Nat} {s : Stp} {p : List Sgm} (h : way[k]? = some s) :
    lowTo els r way c (k + 1) p = if s.el = r.el then limL (lowTo els r way c k p) (partA els s (begF els way c k) r) (partZ els s (begF els way c k) r) r.speed else lowTo els r way c k p := by
  obtain ⟨hl, rfl⟩ := List.getElem?_eq_some_iff.1 h
  unfold lowTo
  rw [List.take_succ_eq_append_getElem hl, lowF_append]
  rfl
theorem limL_nil (f t v : Int) : limL [] f t v = [] := by
  unfold limL; split
  · split <;> rfl
  · rfl
theorem lowF_nil (els : List Elm) (r : Rst) : ∀ (a : List Stp) (c : Int), lowF els r a c [] = []
  | [], _ => rfl
  | s :: a, c => by
    show lowF els r a _ (if s.el = r.el then limL [] _ _ _ else []) = []
    rw [limL_nil, ite_self]
    exact lowF_nil els r a _
theorem lowTo_dead {els : List Elm} {r : Rst} {way : List Stp} {c : Int} {k : Nat} {p : List Sgm} (h : lowTo els r way c k p = []) (hk : k ≤ way.length) : lowF els r way c p = [] := by
  have e : way = way.take k ++ way.drop k := (List.take_append_drop k way).symm
  rw [e, lowF_append]
  unfold lowTo at h
  rw [h, lowF_nil]
/-- All restrictions. -/
def useR (els : List Elm) (r : Rst) : Prop := r.act = true ∧ OkR els r
instance (els : List Elm) (r : Rst) : Decidable (useR els r) := by unfold useR; infer_instance
noncomputable def allF (els : List Elm) (way : List Stp) (c : Int) : List Rst → List Sgm → List Sgm
  | [], p => p
  | r :: l, p => allF els way c l (if useR els r then lowF els r way c p else p)
noncomputable def allTo (els : List Elm) (way : List Stp) (c : Int) (l : List Rst) (k : Nat) (p : List Sgm) : List Sgm := allF els way c (l.take k) p
theorem allF_append (els : List Elm) (way : List Stp) (c : Int) : ∀ (a b : List Rst) (p : List Sgm), allF els way c (a ++ b) p = allF els way c b (allF els way c a p)
  | [], b, p => rfl
  | r :: a, b, p => allF_append els way c a b (if useR els r then lowF els r way c p else p)
theorem allTo_succ {els : List Elm} {way : List Stp} {c : Int} {l : List Rst} {k : Nat} {r : Rst} {p : List Sgm} (h : l[k]? = some r) :
    allTo els way c l (k + 1) p = if useR els r then lowF els r way c (allTo els way c l k p) else allTo els way c l k p := by
  obtain ⟨hl, rfl⟩ := List.getElem?_eq_some_iff.1 h
  unfold allTo
  rw [List.take_succ_eq_append_getElem hl, allF_append]
  rfl
theorem allF_nil (els : List Elm) (way : List Stp) (c : Int) : ∀ l : List Rst, allF els way c l [] = []
  | [] => rfl
  | r :: l => by
    show allF els way c l (if useR els r then lowF els r way c [] else []) = []
    rw [lowF_nil, ite_self]
    exact allF_nil els way c l
theorem allTo_dead {els : List Elm} {way : List Stp} {c : Int} {l : List Rst} {k : Nat} {p : List Sgm} (h : allTo els way c l k p = []) (hk : k ≤ l.length) : allF els way c l p = [] := by
  have e : l = l.take k ++ l.drop k := (List.take_append_drop k l).symm
  rw [e, allF_append]
  unfold allTo at h
  rw [h, allF_nil]
/-- What a passage needs (rails). -/
def needO (kind in_ out_ : Int) : Option Int :=
  if kind = 1 ∧ ((in_ = 0 ∧ out_ = 1) ∨ (in_ = 1 ∧ out_ = 0)) then some 0
  else if kind = 3 ∧ ((in_ = 0 ∧ out_ = 1) ∨ (in_ = 1 ∧ out_ = 0) ∨ (in_ = 2 ∧ out_ = 3) ∨ (in_ = 3 ∧ out_ = 2)) then some 0
  else if kind = 2 ∧ ((in_ = 0 ∧ out_ = 1) ∨ (in_ = 1 ∧ out_ = 0)) then some 1
  else if kind = 2 ∧ ((in_ = 0 ∧ out_ = 2) ∨ (in_ = 2 ∧ out_ = 0)) then some 2
  else none
def needV (kind in_ out_ : Int) : Int := (needO kind in_ out_).getD 0
def needB (kind in_ out_ : Int) : Bool := (needO kind in_ out_).isSome
/-- The end that is joined to an end. -/
def joinO : List Jnt → End → Option End
  | [], _ => none
  | j :: l, e => if j.ae = e.el ∧ j.as_ = e.side then some ⟨j.be, j.bs⟩ else if j.be = e.el ∧ j.bs = e.side then some ⟨j.ae, j.as_⟩ else joinO l e
def joinV (l : List Jnt) (e : End) : End := (joinO l e).getD ⟨0, 0⟩
def joinB (l : List Jnt) (e : End) : Bool := (joinO l e).isSome
theorem joinO_drop {l : List Jnt} {k : Nat} {j : Jnt} (h : l[k]? = some j) (e : End) : joinO (l.drop k) e = if j.ae = e.el ∧ j.as_ = e.side then some ⟨j.be, j.bs⟩ else if j.be = e.el ∧ j.bs = e.side then some ⟨j.ae, j.as_⟩ else joinO (l.drop (k + 1)) e := by
  obtain ⟨hl, rfl⟩ := List.getElem?_eq_some_iff.1 h
  rw [List.drop_eq_getElem_cons hl]
  rfl
theorem joinO_mem : ∀ {l : List Jnt} {e f : End}, joinO l e = some f → ∃ j ∈ l, f = ⟨j.be, j.bs⟩ ∨ f = ⟨j.ae, j.as_⟩
  | [], _, _, h => by cases h
  | j :: l, e, f, h => by
    unfold joinO at h
    split at h
    · cases h; exact ⟨j, by simp, .inl rfl⟩
    · split at h
      · cases h; exact ⟨j, by simp, .inr rfl⟩
      · obtain ⟨x, hx, hf⟩ := joinO_mem h
        exact ⟨x, by simp [hx], hf⟩
/-- A way. -/
def StepOk (els : List Elm) (s : Stp) : Prop := hasEl els s.el ∧ needB (elAt els s.el).kind s.in_ s.out_ = true
def PairOk (jts : List Jnt) (s t : Stp) : Prop := joinB jts ⟨s.el, s.out_⟩ = true ∧ (joinV jts ⟨s.el, s.out_⟩).el = t.el ∧ (joinV jts ⟨s.el, s.out_⟩).side = t.in_
def WayTo (els : List Elm) (jts : List Jnt) (way : List Stp) (k : Nat) : Prop := ∀ i s, i < k → way[i]? = some s → StepOk els s ∧ (∀ j t, j < i → way[j]? = some t → t.el ≠ s.el) ∧ (∀ t, 0 < i → way[i - 1]? = some t → PairOk jts t s)
def Way (els : List Elm) (jts : List Jnt) (way : List Stp) : Prop := 0 < way.length ∧ way.length ≤ 64 ∧ WayTo els jts way way.length
open Classical in
noncomputable def wayB (els : List Elm) (jts : List Jnt) (way : List Stp) : Bool := decide (Way els jts way)
theorem wayB_true {els : List Elm} {jts : List Jnt} {way : List Stp} : wayB els jts way = true ↔ Way els jts way := by simp [wayB]
theorem wayB_false {els : List Elm} {jts : List Jnt} {way : List Stp} : wayB els jts way = false ↔ ¬ Way els jts way := by simp [wayB]
theorem Way.step {els : List Elm} {jts : List Jnt} {way : List Stp} (h : Way els jts way) {k : Nat} {s : Stp} (hs : way[k]? = some s) : StepOk els s := (h.2.2 k s (List.getElem?_eq_some_iff.1 hs).1 hs).1
/-- Apply. -/
def ApOk (els : List Elm) (jts : List Jnt) (way : List Stp) (c : Int) (p : List Sgm) : Prop := Valid p ∧ Way els jts way ∧ -1073741824 ≤ c ∧ c ≤ 1073741824
open Classical in
noncomputable def appL (els : List Elm) (jts : List Jnt) (l : List Rst) (way : List Stp) (c : Int) (p : List Sgm) : List Sgm := if ApOk els jts way c p then allF els way c l p else p
end Sg
