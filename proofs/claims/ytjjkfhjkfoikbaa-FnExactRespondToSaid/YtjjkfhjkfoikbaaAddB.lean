/- How great an inserted list is. No condition. -/
import Derived.Test.YtjjkfhjkfoikbaaOrder
import Derived.Test.YtjjkfhjkfoikbaaHFact
import Derived.Test.YtjjkfhjkfoikbaaHIntSS
namespace Go.Proofs.Ytjjkfhjkfoikbaa
set_option linter.unusedVariables false
theorem sum_insF {α : Type} (p : α → Bool) (f : α → Nat) (l : List α) (x : α) : ((insF p x l).map f).sum = (l.map f).sum + f x := by
  induction l with
  | nil => simp [insF]
  | cons y t ih =>
    unfold insF
    split
    · simp only [List.map_cons, List.sum_cons]; omega
    · simp only [List.map_cons, List.sum_cons, ih]; omega
theorem sum_addC {α : Type} (c : α → α → Int) (f : α → Nat) (l : List α) (x : α) : ((addC c l x).map f).sum ≤ (l.map f).sum + f x := by
  unfold addC
  split
  · omega
  · rw [sum_insF]; omega
theorem len_addC {α : Type} (c : α → α → Int) (l : List α) (x : α) : (addC c l x).length ≤ l.length + 1 := by
  unfold addC
  split
  · omega
  · rw [insF_length]; omega
theorem cntIntSS_sum (l : List (List Int)) : (l.map cntIntS).sum = (l.map fun x => x.length).sum := rfl
theorem cntIntSS_bulk {l : List (List Int)} (h : bulkIntSS l ≤ 1048576) : (l.map cntIntS).sum ≤ 1048576 := by rw [cntIntSS_sum]; unfold bulkIntSS at h; omega
theorem cntIntSS_add {l : List (List Int)} {x : List Int} (h : bulkIntSS l ≤ 1048576) (hx : x.length ≤ 1048576) : ((addTupleL l x).map cntIntS).sum ≤ 2097152 := by
  have h1 := sum_addC cmpL cntIntS l x
  have h2 := cntIntSS_bulk h
  have h3 : cntIntS x = x.length := rfl
  unfold addTupleL; omega
theorem cntFactS_sum (l : List FactD) : (l.map cntFact).sum = bulkFactS l := by
  unfold bulkFactS
  induction l with
  | nil => rfl
  | cons x t ih => simp only [List.map_cons, List.sum_cons, ih, List.length_cons]; unfold cntFact bulkFact; omega
theorem cntFactS_bulk {l : List FactD} (h : bulkFactS l ≤ 1048576) : (l.map cntFact).sum ≤ 1048576 := by rw [cntFactS_sum]; omega
theorem cntFactS_add {l : List FactD} {x : FactD} (h : bulkFactS l ≤ 1048576) (hx : x.vals.length ≤ 1048576) : ((addFactL l x).map cntFact).sum ≤ 2097153 := by
  have h1 := sum_addC cmpFact cntFact l x
  have h2 := cntFactS_bulk h
  have h3 : cntFact x = 1 + x.vals.length := rfl
  unfold addFactL; omega
theorem cntFactS_filter {l : List FactD} {p : FactD → Bool} (h : bulkFactS l ≤ 1048576) : ((l.filter p).map cntFact).sum ≤ 1048576 := by
  have h1 : ∀ l : List FactD, ((l.filter p).map cntFact).sum ≤ (l.map cntFact).sum := by
    intro l
    induction l with
    | nil => simp
    | cons x t ih =>
      rw [List.filter_cons]
      split
      · simp only [List.map_cons, List.sum_cons]; omega
      · simp only [List.map_cons, List.sum_cons]; omega
  exact Nat.le_trans (h1 l) (cntFactS_bulk h)
end Go.Proofs.Ytjjkfhjkfoikbaa
