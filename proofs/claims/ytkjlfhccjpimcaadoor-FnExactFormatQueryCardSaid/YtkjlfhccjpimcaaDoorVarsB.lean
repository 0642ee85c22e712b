/- What the bulk of a query says of its terms. No condition. -/
import Derived.Test.YtkjlfhccjpimcaaDoorVarsL
import Derived.Test.YtkjlfhccjpimcaaDoorHQuery
namespace Go.Proofs.YtkjlfhccjpimcaaDoor
set_option linter.unusedVariables false
theorem termsL_length (l : List AtomD) : (termsL l).length = (l.map fun x => bulkAtom x).sum := by
  unfold termsL
  induction l with
  | nil => rfl
  | cons x t ih => simp only [List.flatMap_cons, List.length_append, ih, List.map_cons, List.sum_cons]; rfl
theorem termsL_bulk {q : QueryD} (h : bulkQuery q ≤ 1048576) : (termsL q.atoms).length ≤ 1048576 := by
  rw [termsL_length]; unfold bulkQuery bulkAtomS at h; omega
theorem cnt_bulk {q : QueryD} (h : bulkQuery q ≤ 1048576) : (q.atoms.map cntAtom).sum ≤ 2097152 := by
  have h1 : ∀ l : List AtomD, (l.map cntAtom).sum = l.length + (l.map fun x => bulkAtom x).sum := by
    intro l
    induction l with
    | nil => rfl
    | cons x t ih => simp only [List.map_cons, List.sum_cons, ih, List.length_cons]; unfold cntAtom bulkAtom; omega
  rw [h1]; unfold bulkQuery bulkAtomS at h; omega
end Go.Proofs.YtkjlfhccjpimcaaDoor
