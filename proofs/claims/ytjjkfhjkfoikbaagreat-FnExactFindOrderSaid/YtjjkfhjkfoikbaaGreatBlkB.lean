/- The bound of the blocked atoms. No condition. -/
import Derived.Test.YtjjkfhjkfoikbaaGreatGreedL
import Derived.Test.YtjjkfhjkfoikbaaGreatHMeth
import Derived.Test.YtjjkfhjkfoikbaaGreatHStep
namespace Go.Proofs.YtjjkfhjkfoikbaaGreat
set_option linter.unusedVariables false
set_option linter.unusedSimpArgs false
theorem cntMethodS_sum (l : List MethD) : (l.map cntMethod).sum ≤ 5 * bulkMethodS l := by
  unfold bulkMethodS
  induction l with
  | nil => simp
  | cons x t ih => simp only [List.map_cons, List.sum_cons, List.length_cons] at ih ⊢; unfold cntMethod bulkMethod at *; omega
theorem cntMethodS_bulk {l : List MethD} (h : bulkMethodS l ≤ 1048576) : (l.map cntMethod).sum ≤ 5242880 := by have := cntMethodS_sum l; omega
theorem blockedL_length (s : List Int) (l : List MethD) (q : QueryD) : (blockedL s l q).length ≤ 4 := by
  unfold blockedL
  cases h : askedB s l q with
  | true => exact Nat.le_trans (freeL_length _ _) (asked_atoms h).2.1
  | false => simp
theorem findL_length (s : List Int) (l : List MethD) (q : QueryD) : (findL s l q).1.length ≤ 4 := by
  unfold findL
  cases h : askedB s l q with
  | true =>
    rw [if_pos rfl]
    split
    · simp
    · exact Nat.le_trans (greedyN_le _) (asked_atoms h).2.1
  | false => simp
theorem cntStepS_sum (l : List StepD) : (l.map cntStep).sum = 2 * l.length := by
  induction l with
  | nil => rfl
  | cons x t ih => rw [List.map_cons, List.sum_cons, List.length_cons, ih]; unfold cntStep; omega
theorem findL_cnt (s : List Int) (l : List MethD) (q : QueryD) : ((findL s l q).1.map cntStep).sum ≤ 1048576 := by
  rw [cntStepS_sum]; have := findL_length s l q; omega
end Go.Proofs.YtjjkfhjkfoikbaaGreat
