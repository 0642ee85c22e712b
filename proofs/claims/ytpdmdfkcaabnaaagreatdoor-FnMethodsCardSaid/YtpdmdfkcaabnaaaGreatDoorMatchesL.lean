/- Plain: which facts fit an access, in plain terms. No condition, no program in sight. -/
import Derived.Test.YtpdmdfkcaabnaaaGreatDoorMA
namespace Go.Proofs.YtpdmdfkcaabnaaaGreatDoor
set_option linter.unusedVariables false
set_option linter.unusedSimpArgs false
/-- Does the fact part from the access at the k-th input. -/
def fitBad (m : MethD) (vals : List Int) (x : FactD) (k : Nat) : Bool := x.vals.getD (m.inputs.getD k 0).toNat 0 != vals.getD k 0
def fitB (m : MethD) (vals : List Int) (x : FactD) : Bool := decide (x.rel = m.rel) && !anyN m.inputs.length (fitBad m vals x)
/-- The reading that is needed goes through. -/
def Fit (m : MethD) (vals : List Int) (x : FactD) : Prop := m.inputs.length ≤ vals.length ∧ (x.rel = m.rel → ∀ k (hk : k < m.inputs.length), ∃ q : Nat, m.inputs[k] = (q : Int) ∧ q < x.vals.length)
theorem fitBad_at {m : MethD} {vals : List Int} {x : FactD} {k q : Nat} (hk : k < m.inputs.length) (hv : k < vals.length) (h : m.inputs[k] = (q : Int)) (hq : q < x.vals.length) : fitBad m vals x k = (x.vals[q] != vals[k]) := by
  unfold fitBad; rw [getD_lt hk, h, Int.toNat_natCast, getD_lt hq, getD_lt hv]
theorem fitB_rel {m : MethD} {vals : List Int} {x : FactD} (h : x.rel ≠ m.rel) : fitB m vals x = false := by unfold fitB; rw [decide_eq_false h]; rfl
theorem fitB_bad {m : MethD} {vals : List Int} {x : FactD} {k : Nat} (hk : k < m.inputs.length) (h : fitBad m vals x k = true) : fitB m vals x = false := by unfold fitB; rw [anyN_true hk h]; simp
theorem fitB_end {m : MethD} {vals : List Int} {x : FactD} {k : Nat} (hr : x.rel = m.rel) (hk : k = m.inputs.length) (h : ∀ j, j < k → fitBad m vals x j = false) : fitB m vals x = true := by
  unfold fitB; rw [anyN_false (fun j hj => h j (by omega)), decide_eq_true hr]; rfl
theorem factB_of_facts {s : List Int} {l : List FactD} (h : factsB s l = true) : ∀ x ∈ l, factB s x = true := by
  intro x hx
  unfold factsB at h
  simp only [Bool.and_eq_true, Bool.not_eq_true'] at h
  obtain ⟨i, hi, rfl⟩ := List.mem_iff_getElem.1 hx
  cases hf : factB s l[i] with
  | true => rfl
  | false =>
    have : factsBad s l i = true := by unfold factsBad; rw [getD_lt hi, hf]; rfl
    rw [anyN_true hi this] at h
    simp at h
theorem facts_24 {s : List Int} {l : List FactD} (h : factsB s l = true) : l.length ≤ 24 := by
  unfold factsB at h
  simp only [Bool.and_eq_true, decide_eq_true_eq] at h
  exact h.2
/-- An access that is valid, and facts that are: the reading goes through. -/
theorem fit_of {s : List Int} {l : List MethD} {a : AccD} (h : accB s l a = true) : ∃ q : Nat, a.meth = (q : Int) ∧ ∃ hq : q < l.length, methB s l[q] = true ∧ a.vals.length = l[q].inputs.length ∧ ∀ x, factB s x = true → Fit l[q] a.vals x := by
  unfold accB at h
  simp only [Bool.and_eq_true, decide_eq_true_eq, Bool.not_eq_true'] at h
  obtain ⟨⟨⟨h1, h2⟩, h3⟩, _⟩ := h
  have h2' := inR_true h2
  obtain ⟨q, hq⟩ := Int.eq_ofNat_of_zero_le h2'.1
  have hql : q < l.length := by omega
  have hm : methB s l[q] = true := by
    unfold methsB at h1
    simp only [Bool.and_eq_true, Bool.not_eq_true', List.any_eq_false] at h1
    have := h1.2 l[q] (List.getElem_mem hql)
    simpa using this
  have hmt : methAt l a.meth = l[q] := by unfold methAt; rw [hq, Int.toNat_natCast, getD_lt hql]
  rw [hmt] at h3
  refine ⟨q, hq, hql, hm, h3, fun x hx => ⟨by omega, fun hr k hk => ?_⟩⟩
  unfold methB fitsB at hm
  simp only [Bool.and_eq_true, Bool.not_eq_true', List.any_eq_false] at hm
  have hin := hm.2.1.2 l[q].inputs[k] (List.getElem_mem hk)
  have hin' := inR_true (by simpa using hin)
  unfold factB at hx
  simp only [Bool.and_eq_true, decide_eq_true_eq] at hx
  have hl := hx.1.2
  rw [hr] at hl
  obtain ⟨p, hp⟩ := Int.eq_ofNat_of_zero_le hin'.1
  exact ⟨p, hp, by omega⟩
/-- What the reference and the program both return. -/
def matchesL (s : List Int) (l : List MethD) (facts : List FactD) (a : AccD) : List FactD := if accB s l a && factsB s facts then facts.filter (fitB (methAt l a.meth) a.vals) else []
theorem filter_take_yes {α : Type} {p : α → Bool} {l : List α} {k : Nat} (hk : k < l.length) (h : p l[k] = true) : (l.take (k + 1)).filter p = (l.take k).filter p ++ [l[k]] := by
  rw [List.take_succ_eq_append_getElem hk, List.filter_append]; simp [h]
theorem filter_take_no {α : Type} {p : α → Bool} {l : List α} {k : Nat} (hk : k < l.length) (h : p l[k] = false) : (l.take (k + 1)).filter p = (l.take k).filter p := by
  rw [List.take_succ_eq_append_getElem hk, List.filter_append]; simp [h]
theorem filter_take_le {α : Type} (p : α → Bool) (l : List α) (k : Nat) : ((l.take k).filter p).length ≤ l.length := Nat.le_trans (List.length_filter_le _ _) (by rw [List.length_take]; omega)
end Go.Proofs.YtpdmdfkcaabnaaaGreatDoor
