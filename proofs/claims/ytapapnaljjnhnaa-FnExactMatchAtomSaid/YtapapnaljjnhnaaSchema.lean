/- IsSchema, of the program and of the reference; hasRel. -/
import Derived.Test.YtapapnaljjnhnaaIdxInt
import Derived.Test.YtapapnaljjnhnaaInt
namespace Go.Proofs.Ytapapnaljjnhnaa
open Go.RowKit
set_option linter.unusedVariables false
set_option linter.unusedSimpArgs false
/-- Is it a schema. -/
def schemaB (s : List Int) : Bool := inR s.length 1 3 && !(s.any fun n => !inR n 1 3)
theorem any_false_of {α : Type} {p : α → Bool} {l : List α} (h : ∀ j (hj : j < l.length), p l[j] = false) : l.any p = false := by
  rw [List.any_eq_false]
  intro x hx
  obtain ⟨j, hj, rfl⟩ := List.mem_iff_getElem.1 hx
  simp [h j hj]
theorem any_true_of {α : Type} {p : α → Bool} {l : List α} {j : Nat} (hj : j < l.length) (h : p l[j] = true) : l.any p = true := List.any_eq_true.2 ⟨l[j], List.getElem_mem hj, h⟩
theorem none_step {α : Type} {p : α → Bool} {l : List α} {k : Nat} (H : ∀ j (hj : j < l.length), j < k → p l[j] = false) (hk : k < l.length) (h : p l[k] = false) : ∀ j (hj : j < l.length), j < k + 1 → p l[j] = false := by
  intro j hj h1
  by_cases e : j = k
  · subst e; exact h
  · exact H j hj (by omega)
end Go.Proofs.Ytapapnaljjnhnaa
