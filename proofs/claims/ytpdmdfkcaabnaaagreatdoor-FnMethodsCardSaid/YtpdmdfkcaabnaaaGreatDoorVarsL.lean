/- Plain laws on the terms of a query: the set of those that a test takes. No condition, no program in sight. -/
import Derived.Test.YtpdmdfkcaabnaaaGreatDoorSorted
namespace Go.Proofs.YtpdmdfkcaabnaaaGreatDoor
set_option linter.unusedVariables false
set_option linter.unusedSimpArgs false
/-- All terms of atoms. -/
def termsL (l : List AtomD) : List Int := l.flatMap (·.terms)
theorem setOf_yes {p : Int → Bool} {l : List Int} {x : Int} (h : p x = true) : setOf p (l ++ [x]) = putL (setOf p l) x := by
  unfold setOf; rw [List.filter_append]; simp [h]
theorem setOf_no {p : Int → Bool} {l : List Int} {x : Int} (h : p x = false) : setOf p (l ++ [x]) = setOf p l := by
  unfold setOf; rw [List.filter_append]; simp [h]
theorem putL_length (l : List Int) (x : Int) : (putL l x).length ≤ l.length + 1 := by
  unfold putL; split
  · omega
  · rw [insF_length]; omega
theorem foldl_putL_length (l : List Int) : ∀ acc : List Int, (l.foldl putL acc).length ≤ acc.length + l.length := by
  induction l with
  | nil => intro acc; simp
  | cons x t ih =>
    intro acc
    have h1 := ih (putL acc x)
    have h2 := putL_length acc x
    simp only [List.foldl_cons, List.length_cons]
    omega
theorem setOf_length (p : Int → Bool) (l : List Int) : (setOf p l).length ≤ l.length := by
  have h1 := foldl_putL_length (l.filter p) []
  have h2 := List.length_filter_le p l
  unfold setOf
  simp only [List.length_nil] at h1
  omega
theorem termsL_succ {l : List AtomD} {k : Nat} (hk : k < l.length) : termsL (l.take (k + 1)) = termsL (l.take k) ++ l[k].terms := by
  unfold termsL
  rw [List.take_succ_eq_append_getElem hk, List.flatMap_append]; simp
theorem termsL_all {l : List AtomD} {k : Nat} (hk : k = l.length) : termsL (l.take k) = termsL l := by subst hk; rw [List.take_length]
theorem termsL_split {l : List AtomD} {k : Nat} (hk : k < l.length) : termsL l = termsL (l.take k) ++ l[k].terms ++ termsL (l.drop (k + 1)) := by
  have h : l.take (k + 1) ++ l.drop (k + 1) = l := List.take_append_drop _ _
  rw [← termsL_succ hk]
  conv => lhs; rw [← h]
  unfold termsL; rw [List.flatMap_append]
/-- What has been met: whole atoms, and the head of the next. -/
def metL (l : List AtomD) (k j : Nat) (t : List Int) : List Int := termsL (l.take k) ++ t.take j
theorem met_length {l : List AtomD} {k : Nat} (hk : k < l.length) (j : Nat) : (metL l k j l[k].terms).length ≤ (termsL l).length := by
  rw [termsL_split hk]
  unfold metL
  simp only [List.length_append, List.length_take]
  omega
theorem met_zero (l : List AtomD) (k : Nat) (t : List Int) : metL l k 0 t = termsL (l.take k) := by unfold metL; simp
theorem met_succ {l : List AtomD} {k j : Nat} {t : List Int} (hj : j < t.length) : metL l k (j + 1) t = metL l k j t ++ [t[j]] := by
  unfold metL; rw [List.take_succ_eq_append_getElem hj, List.append_assoc]
theorem met_end {l : List AtomD} {k j : Nat} (hk : k < l.length) (hj : j = l[k].terms.length) : metL l k j l[k].terms = termsL (l.take (k + 1)) := by
  unfold metL; rw [hj, List.take_length, termsL_succ hk]
end Go.Proofs.YtpdmdfkcaabnaaaGreatDoor
