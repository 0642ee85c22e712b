/- How great what is told of an access is; how great methods are. No condition. -/
import Derived.Test.YtjjkfhjkfoikbaaAddB
import Derived.Test.YtjjkfhjkfoikbaaMatchesL
import Derived.Test.YtjjkfhjkfoikbaaHMeth
namespace Go.Proofs.Ytjjkfhjkfoikbaa
set_option linter.unusedVariables false
theorem cntMethodS_sum (l : List MethD) : (l.map cntMethod).sum ≤ 5 * bulkMethodS l := by
  unfold bulkMethodS
  induction l with
  | nil => simp
  | cons x t ih => simp only [List.map_cons, List.sum_cons, List.length_cons] at ih ⊢; unfold cntMethod bulkMethod at *; omega
theorem cntMethodS_bulk {l : List MethD} (h : bulkMethodS l ≤ 1048576) : (l.map cntMethod).sum ≤ 5242880 := by have := cntMethodS_sum l; omega
theorem matchesL_cnt {s : List Int} {l : List MethD} {fa : List FactD} {a : AccD} (h : bulkFactS fa ≤ 1048576) : ((matchesL s l fa a).map cntFact).sum ≤ 1048576 := by
  unfold matchesL
  split
  · exact cntFactS_filter h
  · simp
end Go.Proofs.Ytjjkfhjkfoikbaa
