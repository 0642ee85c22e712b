/- Plain laws: values under bindings, matching. No program in sight. -/
import Derived.Test.YtapapnaljjnhnaaCalc
namespace Go.Proofs.Ytapapnaljjnhnaa
open Go.RowKit
set_option linter.unusedVariables false
set_option linter.unusedSimpArgs false
def valB (b : BindD) (t : Int) : Int := if isVarB t then lookL b.vars b.vals t else t
theorem idxI_nil {α : Type} (p : α → Bool) : idxI p [] = -1 := rfl
theorem idxI_cons' {α : Type} (p : α → Bool) (y : α) (t : List α) : idxI p (y :: t) = if p y then 0 else if idxI p t < 0 then -1 else idxI p t + 1 := by
  unfold idxI
  rw [List.findIdx?_cons]
  cases hp : p y with
  | true => simp
  | false =>
    cases h : t.findIdx? p with
    | none => simp
    | some i => simp; omega
theorem idxI_lo {α : Type} (p : α → Bool) (l : List α) : -1 ≤ idxI p l := by
  unfold idxI; split <;> omega
theorem entryL_cons (v x t : Int) (vs xs : List Int) : entryL (v :: vs) (x :: xs) t = if v = t then 0 else if entryL vs xs t < 0 then -1 else entryL vs xs t + 1 := by
  unfold entryL
  simp only [List.length_cons]
  rw [show min (vs.length + 1) (xs.length + 1) = min vs.length xs.length + 1 by omega, List.take_succ_cons, idxI_cons']
  by_cases h : v = t
  · simp [h]
  · have : (t == v) = false := by simp; exact fun e => h e.symm
    simp [this, h]
theorem entryL_spec (vs xs : List Int) (t : Int) : (entryL vs xs t < 0 → boundL vs xs t = false ∧ lookL vs xs t = -1) ∧
    (0 ≤ entryL vs xs t → boundL vs xs t = true ∧ ∃ h : (entryL vs xs t).toNat < xs.length, lookL vs xs t = xs[(entryL vs xs t).toNat]) := by
  induction vs generalizing xs with
  | nil =>
    have h : entryL [] xs t = -1 := by simp [entryL, idxI_nil]
    rw [h]
    refine ⟨fun _ => ⟨by cases xs <;> rfl, by cases xs <;> rfl⟩, fun h => by omega⟩
  | cons v vs ih =>
    cases xs with
    | nil =>
      have h : entryL (v :: vs) [] t = -1 := by simp [entryL, idxI_nil]
      rw [h]
      exact ⟨fun _ => ⟨rfl, rfl⟩, fun h => by omega⟩
    | cons x xs =>
      rw [entryL_cons]
      obtain ⟨i1, i2⟩ := ih xs
      by_cases h : v = t
      · simp [h, boundL, lookL]
      · have eb : boundL (v :: vs) (x :: xs) t = boundL vs xs t := by simp [boundL, h]
        have el : lookL (v :: vs) (x :: xs) t = lookL vs xs t := by simp [lookL, h]
        rw [eb, el, if_neg h]
        by_cases h0 : entryL vs xs t < 0
        · rw [if_pos h0]
          exact ⟨fun _ => i1 h0, fun h => by omega⟩
        · rw [if_neg h0]
          obtain ⟨j1, j2, j3⟩ := i2 (by omega)
          refine ⟨fun h => by omega, fun _ => ⟨j1, ?_, ?_⟩⟩
          · simp only [List.length_cons]; omega
          · have e : (entryL vs xs t + 1).toNat = (entryL vs xs t).toNat + 1 := by omega
            rw [j3]
            simp [e]
theorem entryL_lo (vs xs : List Int) (t : Int) : -1 ≤ entryL vs xs t := idxI_lo _ _
theorem lookL_new {vs xs : List Int} {t v : Int} (hl : vs.length = xs.length) (h : boundL vs xs t = false) : lookL (vs ++ [t]) (xs ++ [v]) t = v := by
  induction vs generalizing xs with
  | nil =>
    cases xs with
    | nil => simp [lookL]
    | cons x xs => simp at hl
  | cons y vs ih =>
    cases xs with
    | nil => simp at hl
    | cons x xs =>
      simp only [boundL] at h
      split at h
      · cases h
      · rename_i hne
        simp only [List.cons_append, lookL, if_neg hne]
        exact ih (by simpa using hl) h
/-- An atom's terms are matched with values, one behind the other. -/
def matchL : List Int → List Int → BindD → Option BindD
  | t :: ts, v :: vs, b =>
    if isVarB t && !boundL b.vars b.vals t then matchL ts vs ⟨b.vars ++ [t], b.vals ++ [v]⟩
    else if valB b t = v then matchL ts vs b else none
  | _, _, b => some b
def matchB (b : BindD) (a : AtomD) (f : FactD) : Option BindD :=
  if a.rel = f.rel ∧ a.terms.length = f.vals.length ∧ b.vars.length = b.vals.length then matchL a.terms f.vals b else none
theorem matchL_len : ∀ (ts vs : List Int) (b c : BindD), b.vars.length = b.vals.length → matchL ts vs b = some c → c.vars.length = c.vals.length
  | [], _, b, c, hb, h => by simp [matchL] at h; rw [← h]; exact hb
  | _ :: _, [], b, c, hb, h => by simp [matchL] at h; rw [← h]; exact hb
  | t :: ts, v :: vs, b, c, hb, h => by
    simp only [matchL] at h
    split at h
    · exact matchL_len ts vs _ c (by simp [hb]) h
    · split at h
      · exact matchL_len ts vs b c hb h
      · cases h
section
variable {ts vs : List Int} {b : BindD} {k : Nat}
theorem matchL_bind (h1 : k < ts.length) (h2 : k < vs.length) (h : isVarB ts[k] = true) (h' : boundL b.vars b.vals ts[k] = false) :
    matchL (ts.drop k) (vs.drop k) b = matchL (ts.drop (k + 1)) (vs.drop (k + 1)) ⟨b.vars ++ [ts[k]], b.vals ++ [vs[k]]⟩ := by
  rw [List.drop_eq_getElem_cons h1, List.drop_eq_getElem_cons h2]; simp [matchL, h, h']
theorem matchL_same (h1 : k < ts.length) (h2 : k < vs.length) (h : (isVarB ts[k] && !boundL b.vars b.vals ts[k]) = false) (h' : valB b ts[k] = vs[k]) :
    matchL (ts.drop k) (vs.drop k) b = matchL (ts.drop (k + 1)) (vs.drop (k + 1)) b := by
  rw [List.drop_eq_getElem_cons h1, List.drop_eq_getElem_cons h2]; simp only [matchL, h, h']; simp
theorem matchL_none (h1 : k < ts.length) (h2 : k < vs.length) (h : (isVarB ts[k] && !boundL b.vars b.vals ts[k]) = false) (h' : valB b ts[k] ≠ vs[k]) :
    matchL (ts.drop k) (vs.drop k) b = none := by
  rw [List.drop_eq_getElem_cons h1, List.drop_eq_getElem_cons h2]; simp only [matchL, h, h', if_false]; simp
theorem matchL_end (h1 : ts.length ≤ k) : matchL (ts.drop k) (vs.drop k) b = some b := by
  rw [List.drop_eq_nil_of_le h1]; cases vs.drop k <;> rfl
end
/-- All ways to match an atom with facts, for each binding. -/
def extendL (l : List BindD) (a : AtomD) (facts : List FactD) : List BindD := l.flatMap fun b => facts.filterMap fun f => matchB b a f
end Go.Proofs.Ytapapnaljjnhnaa
