/- Plain: what a source tells with a choice: the reference adds the facts of a window one by one, the program strikes what lies outside of it. No condition. -/
import Derived.Test.YtjjkfhjkfoikbaaMatchesL
import Derived.Test.YtjjkfhjkfoikbaaOrder
namespace Go.Proofs.Ytjjkfhjkfoikbaa
set_option linter.unusedVariables false
set_option linter.unusedSimpArgs false
/-- The place of the j-th fact of a window that begins at k. -/
def winAt (n k j : Nat) : Nat := (k + j) % n
/-- Does a window of L places that begins at k hold place i. -/
def inWin (n k L i : Nat) : Bool := decide ((i + n - k) % n < L)
theorem win_iff {n k L i : Nat} (hk : k < n) (hL : L ≤ n) (hi : i < n) : inWin n k L i = true ↔ ∃ j, j < L ∧ winAt n k j = i := by
  unfold inWin winAt
  rw [decide_eq_true_eq]
  constructor
  · intro h
    refine ⟨(i + n - k) % n, h, ?_⟩
    by_cases hik : k ≤ i
    · rw [show i + n - k = (i - k) + n by omega, Nat.add_mod_right, Nat.mod_eq_of_lt (show i - k < n by omega), show k + (i - k) = i by omega, Nat.mod_eq_of_lt hi]
    · rw [Nat.mod_eq_of_lt (show i + n - k < n by omega), show k + (i + n - k) = i + n by omega, Nat.add_mod_right, Nat.mod_eq_of_lt hi]
  · rintro ⟨j, hj, h⟩
    by_cases hkj : k + j < n
    · rw [Nat.mod_eq_of_lt hkj] at h
      rw [show i + n - k = j + n by omega, Nat.add_mod_right, Nat.mod_eq_of_lt (show j < n by omega)]; exact hj
    · rw [show k + j = (k + j - n) + n by omega, Nat.add_mod_right, Nat.mod_eq_of_lt (show k + j - n < n by omega)] at h
      rw [show i + n - k = j by omega, Nat.mod_eq_of_lt (show j < n by omega)]; exact hj
/-- The facts of the first j places of a window, added one by one. -/
def respS (x : List FactD) (k : Nat) : Nat → List FactD
  | 0 => []
  | j + 1 => addFactL (respS x k j) (x.getD (winAt x.length k j) ⟨0, []⟩)
/-- The facts of the first i places that lie in a window. -/
def respI (x : List FactD) (k L : Nat) (i : Nat) : List FactD := ((List.range i).filter (inWin x.length k L)).map fun t => x.getD t ⟨0, []⟩
theorem respS_mem {x : List FactD} {k : Nat} (j : Nat) (y : FactD) : y ∈ respS x k j ↔ ∃ t, t < j ∧ y = x.getD (winAt x.length k t) ⟨0, []⟩ := by
  induction j with
  | zero => simp [respS]
  | succ j ih =>
    unfold respS addFactL
    rw [addC_mem cmp_facts, ih]
    constructor
    · rintro (⟨t, ht, h⟩ | h)
      · exact ⟨t, by omega, h⟩
      · exact ⟨j, by omega, h⟩
    · rintro ⟨t, ht, h⟩
      by_cases e : t = j
      · subst e; exact .inr h
      · exact .inl ⟨t, by omega, h⟩
theorem respS_asc (x : List FactD) (k j : Nat) : AscC cmpFact (respS x k j) := by
  induction j with
  | zero => exact List.Pairwise.nil
  | succ j ih => exact addC_asc cmp_facts ih
theorem respS_length (x : List FactD) (k j : Nat) : (respS x k j).length ≤ j := by
  induction j with
  | zero => simp [respS]
  | succ j ih =>
    unfold respS addFactL addC
    split
    · omega
    · rw [insF_length]; omega
theorem respI_zero (x : List FactD) (k L : Nat) : respI x k L 0 = [] := rfl
theorem respI_yes {x : List FactD} {k L i : Nat} (hi : i < x.length) (h : inWin x.length k L i = true) : respI x k L (i + 1) = respI x k L i ++ [x[i]] := by
  unfold respI; rw [List.range_succ, List.filter_append, List.map_append]; simp [h, List.getElem?_eq_getElem hi]
theorem respI_no {x : List FactD} {k L i : Nat} (h : inWin x.length k L i = false) : respI x k L (i + 1) = respI x k L i := by
  unfold respI; rw [List.range_succ, List.filter_append, List.map_append]; simp [h]
theorem respI_length (x : List FactD) (k L i : Nat) : (respI x k L i).length ≤ i := by
  unfold respI; rw [List.length_map]; exact Nat.le_trans (List.length_filter_le _ _) (by simp)
theorem resp_eq {x : List FactD} {k L : Nat} (ha : AscC cmpFact x) (hk : k < x.length) (hL : L ≤ x.length) : respS x k L = respI x k L x.length := by
  refine AscC.ext cmp_facts (respS_asc x k L) ?_ fun y => ?_
  · unfold respI AscC
    rw [List.pairwise_map]
    refine List.Pairwise.imp_of_mem ?_ ((List.pairwise_lt_range (n := x.length)).filter _)
    intro a b ha' hb' hab
    rw [List.mem_filter, List.mem_range] at ha' hb'
    rw [getD_lt ha'.1, getD_lt hb'.1]
    exact List.pairwise_iff_getElem.1 ha a b ha'.1 hb'.1 hab
  · rw [respS_mem]
    unfold respI
    rw [List.mem_map]
    have hw : ∀ t, winAt x.length k t < x.length := fun t => Nat.mod_lt _ (by omega)
    constructor
    · rintro ⟨t, ht, rfl⟩
      exact ⟨winAt x.length k t, by rw [List.mem_filter, List.mem_range]; exact ⟨hw t, (win_iff hk hL (hw t)).2 ⟨t, ht, rfl⟩⟩, rfl⟩
    · rintro ⟨i, hi, rfl⟩
      rw [List.mem_filter, List.mem_range] at hi
      obtain ⟨t, ht, rfl⟩ := (win_iff hk hL hi.1).1 hi.2
      exact ⟨t, ht, rfl⟩
theorem factsB_filter {s : List Int} {l : List FactD} (h : factsB s l = true) (p : FactD → Bool) : AscC cmpFact (l.filter p) := List.Pairwise.filter p (factsB_asc h)
/-- What both return. -/
def respondL (s : List Int) (l : List MethD) (fa : List FactD) (a : AccD) (c : Int) : List FactD :=
  if (matchesL s l fa a).length = 0 ∨ (methAt l a.meth).limit = 0 ∨ ((matchesL s l fa a).length : Int) ≤ (methAt l a.meth).limit then matchesL s l fa a
  else respS (matchesL s l fa a) (c.toNat % (matchesL s l fa a).length) (methAt l a.meth).limit.toNat
theorem methAt_nat' {l : List MethD} {k : Nat} {vals : List Int} (h : k < l.length) : methAt l (AccD.meth ⟨(k : Int), vals⟩) = l[k] := by unfold methAt; rw [Int.toNat_natCast, getD_lt h]
theorem respondL_none {s : List Int} {l : List MethD} {fa : List FactD} {a : AccD} {c : Int} (h : matchesL s l fa a = []) : respondL s l fa a c = [] := by unfold respondL; rw [h]; rfl
section
variable {s : List Int} {l : List MethD} {fa : List FactD} {vals : List Int} {q : Nat} {c : Int} {x : List FactD} {L : Nat}
theorem respondL_all (hq : q < l.length) (hx : matchesL s l fa ⟨q, vals⟩ = x) (hL : l[q].limit = (L : Int)) (h : L = 0 ∨ x.length ≤ L) : respondL s l fa ⟨q, vals⟩ c = x := by
  unfold respondL
  rw [hx, methAt_nat' hq, hL, if_pos]
  rcases h with h | h
  · exact .inr (.inl (by omega))
  · exact .inr (.inr (by omega))
theorem respondL_win (hq : q < l.length) (hx : matchesL s l fa ⟨q, vals⟩ = x) (hL : l[q].limit = (L : Int)) (h0 : L ≠ 0) (h : ¬ x.length ≤ L) : respondL s l fa ⟨q, vals⟩ c = respS x (c.toNat % x.length) L := by
  unfold respondL
  rw [hx, methAt_nat' hq, hL, if_neg]
  · simp
  · rintro (h1 | h1 | h1) <;> omega
end
theorem limit_of {s : List Int} {m : MethD} (h : methB s m = true) : ∃ L : Nat, m.limit = (L : Int) ∧ L ≤ 9 := by
  unfold methB fitsB numsB at h
  simp only [Bool.and_eq_true] at h
  have h1 := inR_true h.2.2.1.1
  obtain ⟨L, hL⟩ := Int.eq_ofNat_of_zero_le h1.1
  exact ⟨L, hL, by omega⟩
end Go.Proofs.Ytjjkfhjkfoikbaa
