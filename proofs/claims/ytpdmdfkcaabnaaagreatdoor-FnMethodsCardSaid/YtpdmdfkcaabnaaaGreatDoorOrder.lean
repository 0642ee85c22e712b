/- Plain laws: the order of facts and of tuples; ascending lists; adding to them. No program in sight. -/
import Derived.Test.YtpdmdfkcaabnaaaGreatDoorSorted
namespace Go.Proofs.YtpdmdfkcaabnaaaGreatDoor
open Go.RowKit
set_option linter.unusedVariables false
set_option linter.unusedSimpArgs false
theorem cmpI_neg (x y : Int) : cmpI y x = - cmpI x y := by
  unfold cmpI
  by_cases h1 : x < y <;> by_cases h2 : y < x <;> simp [h1, h2] <;> omega
theorem cmpL_neg (s t : List Int) : cmpL t s = - cmpL s t := by
  induction s generalizing t with
  | nil => cases t <;> simp [cmpL]
  | cons x s ih =>
    cases t with
    | nil => simp [cmpL]
    | cons y t =>
      rw [cmpL_cons, cmpL_cons, cmpI_neg x y, ih t]
      by_cases h : cmpI x y = 0
      · simp [h]
      · rw [if_neg (by omega), if_neg h]
theorem cmpFact_neg (a b : FactD) : cmpFact b a = - cmpFact a b := by
  unfold cmpFact
  rw [cmpI_neg a.rel b.rel, cmpL_neg a.vals b.vals]
  by_cases h : cmpI a.rel b.rel = 0
  · simp [h]
  · rw [if_neg (by omega), if_neg h]
theorem cmpL_trans {s t u : List Int} (h : cmpL s t < 0) (k : cmpL t u < 0) : cmpL s u < 0 := by
  induction s generalizing t u with
  | nil =>
    cases u with
    | nil => cases t <;> simp [cmpL] at h k
    | cons z u => simp [cmpL]
  | cons x s ih =>
    cases t with
    | nil => simp [cmpL] at h
    | cons y t =>
      cases u with
      | nil => simp [cmpL] at k
      | cons z u =>
        rw [cmpL_cons] at h k ⊢
        rcases cmpI_vals x y with h1 | h1 | h1 <;> rcases cmpI_vals y z with k1 | k1 | k1 <;> rcases cmpI_vals x z with g1 | g1 | g1 <;>
          simp only [h1.1, k1.1, g1.1] at h k ⊢ <;> simp at h k ⊢ <;> first | omega | exact ih h k | (exfalso; omega)
theorem cmpFact_trans {a b c : FactD} (h : cmpFact a b < 0) (k : cmpFact b c < 0) : cmpFact a c < 0 := by
  unfold cmpFact at *
  rcases cmpI_vals a.rel b.rel with h1 | h1 | h1 <;> rcases cmpI_vals b.rel c.rel with k1 | k1 | k1 <;> rcases cmpI_vals a.rel c.rel with g1 | g1 | g1 <;>
    simp only [h1.1, k1.1, g1.1] at h k ⊢ <;> simp at h k ⊢ <;> first | omega | exact cmpL_trans h k | (exfalso; omega)
/-- A strict total order, told by a comparison. -/
structure Cmp {α : Type} (c : α → α → Int) : Prop where
  neg : ∀ x y, c y x = - c x y
  zero : ∀ x y, c x y = 0 ↔ x = y
  trans : ∀ x y z, c x y < 0 → c y z < 0 → c x z < 0
theorem cmp_facts : Cmp cmpFact := ⟨cmpFact_neg, cmpFact_zero, fun _ _ _ => cmpFact_trans⟩
theorem cmp_ints : Cmp cmpL := ⟨cmpL_neg, cmpL_zero, fun _ _ _ => cmpL_trans⟩
/-- Strictly ascending. -/
def AscC {α : Type} (c : α → α → Int) (l : List α) : Prop := l.Pairwise fun x y => c x y < 0
theorem AscC.ext {α : Type} {c : α → α → Int} (hc : Cmp c) : ∀ {l m : List α}, AscC c l → AscC c m → (∀ x, x ∈ l ↔ x ∈ m) → l = m
  | [], [], _, _, _ => rfl
  | [], y :: m, _, _, h => by have := (h y).2 (by simp); simp at this
  | x :: l, [], _, _, h => by have := (h x).1 (by simp); simp at this
  | x :: l, y :: m, hl, hm, h => by
    have hl' := List.pairwise_cons.1 hl
    have hm' := List.pairwise_cons.1 hm
    have irr : ∀ z, ¬ c z z < 0 := fun z hz => by rw [(hc.zero z z).2 rfl] at hz; omega
    have asym : ∀ a b, c a b < 0 → c b a < 0 → False := fun a b h1 h2 => by rw [hc.neg a b] at h2; omega
    have e : x = y := by
      rcases List.mem_cons.1 ((h x).1 (by simp)) with h1 | h1
      · exact h1
      · rcases List.mem_cons.1 ((h y).2 (by simp)) with h2 | h2
        · exact h2.symm
        · exact (asym _ _ (hm'.1 x h1) (hl'.1 y h2)).elim
    subst e
    congr 1
    refine AscC.ext hc hl'.2 hm'.2 fun z => ?_
    have := h z
    simp only [List.mem_cons] at this
    constructor
    · intro hz
      rcases this.1 (.inr hz) with rfl | h1
      · exact (irr _ (hl'.1 _ hz)).elim
      · exact h1
    · intro hz
      rcases this.2 (.inr hz) with rfl | h1
      · exact (irr _ (hm'.1 _ hz)).elim
      · exact h1
/-- A datum is added to a list, if it is not there: ahead of the first greater one. -/
def addC {α : Type} (c : α → α → Int) (l : List α) (x : α) : List α := if l.any (fun y => decide (c y x = 0)) then l else insF (fun y => decide (0 < c y x)) x l
theorem any_zero {α : Type} {c : α → α → Int} (hc : Cmp c) (l : List α) (x : α) : (l.any fun y => decide (c y x = 0)) = true ↔ x ∈ l := by
  rw [List.any_eq_true]
  constructor
  · rintro ⟨y, hy, h⟩
    have := (hc.zero y x).1 (by simpa using h)
    rw [← this]; exact hy
  · intro h
    exact ⟨x, h, by simpa using (hc.zero x x).2 rfl⟩
theorem addC_mem {α : Type} {c : α → α → Int} (hc : Cmp c) (l : List α) (x y : α) : y ∈ addC c l x ↔ y ∈ l ∨ y = x := by
  unfold addC
  split
  · rename_i h
    have h := (any_zero hc l x).1 h
    constructor
    · exact .inl
    · rintro (h1 | rfl)
      · exact h1
      · exact h
  · rw [insF_mem]; exact Or.comm
theorem insF_ascC {α : Type} {c : α → α → Int} (hc : Cmp c) {l : List α} {x : α} (h : AscC c l) (hx : x ∉ l) : AscC c (insF (fun y => decide (0 < c y x)) x l) := by
  induction l with
  | nil => simp [insF, AscC]
  | cons y t ih =>
    unfold insF
    have h' := List.pairwise_cons.1 h
    have hne : x ≠ y := fun e => hx (by simp [e])
    have hnt : x ∉ t := fun e => hx (by simp [e])
    split
    · rename_i hlt
      have hlt' : c x y < 0 := by have h1 : 0 < c y x := by simpa using hlt
                                  rw [hc.neg y x]; omega
      refine List.pairwise_cons.2 ⟨fun z hz => ?_, h⟩
      rcases List.mem_cons.1 hz with rfl | hz
      · exact hlt'
      · exact hc.trans _ _ _ hlt' (h'.1 z hz)
    · rename_i hlt
      have hge : ¬ 0 < c y x := by simpa using hlt
      have hyx : c y x < 0 := by
        rcases Int.lt_trichotomy (c y x) 0 with h1 | h1 | h1
        · exact h1
        · exact (hne ((hc.zero y x).1 h1).symm).elim
        · exact (hge h1).elim
      refine List.pairwise_cons.2 ⟨fun z hz => ?_, ih h'.2 hnt⟩
      rcases (insF_mem _ _ _ _).1 hz with rfl | hz
      · exact hyx
      · exact h'.1 z hz
theorem addC_asc {α : Type} {c : α → α → Int} (hc : Cmp c) {l : List α} {x : α} (h : AscC c l) : AscC c (addC c l x) := by
  unfold addC
  split
  · exact h
  · rename_i hn
    exact insF_ascC hc h fun hx => hn ((any_zero hc l x).2 hx)
/-- The reference inserts ahead of the first place that is greater, told the other way about. -/
theorem insF_turned {α : Type} {c : α → α → Int} (hc : Cmp c) (l : List α) (x : α) : insF (fun y => decide (c x y < 0)) x l = insF (fun y => decide (0 < c y x)) x l :=
  insF_congr x fun y _ => by rw [hc.neg y x]; simp
def addFactL (l : List FactD) (x : FactD) : List FactD := addC cmpFact l x
def addTupleL (l : List (List Int)) (x : List Int) : List (List Int) := addC cmpL l x
/-- A list of facts that is one: strictly ascending. -/
theorem factsB_asc {s : List Int} {l : List FactD} (h : factsB s l = true) : AscC cmpFact l := by
  unfold factsB at h
  simp only [Bool.and_eq_true, Bool.not_eq_true'] at h
  obtain ⟨⟨h1, _⟩, _⟩ := h
  have hb : ∀ i, i < l.length → factsBad s l i = false := by
    intro i hi
    cases hq : factsBad s l i with
    | false => rfl
    | true => rw [anyN_true hi hq] at h1; cases h1
  have hstep : ∀ i (hi : i + 1 < l.length), cmpFact l[i] l[i + 1] < 0 := by
    intro i hi
    have := hb (i + 1) hi
    unfold factsBad at this
    rw [getD_lt hi, show i + 1 - 1 = i from rfl, getD_lt (show i < l.length by omega)] at this
    simp at this
    exact this.2
  refine List.pairwise_iff_getElem.2 fun i j hi hj hij => ?_
  induction j with
  | zero => omega
  | succ j ih =>
    by_cases e : i = j
    · subst e; exact hstep i hj
    · exact cmpFact_trans (ih (by omega) (by omega)) (hstep j hj)
end Go.Proofs.YtpdmdfkcaabnaaaGreatDoor
