/- Plain laws: what FnFacts says of the data. No condition, no program in sight. -/
import Derived.Test.YtpdmdfkcaabnaaaGreatDoorParFL
import Derived.Test.YtpdmdfkcaabnaaaGreatDoorAddS
namespace Go.Proofs.YtpdmdfkcaabnaaaGreatDoor
open Go.RowKit
set_option linter.unusedVariables false
set_option linter.unusedSimpArgs false
theorem hasFactB_iff {l : List FactD} {x : FactD} : hasFactB l x = true ↔ x ∈ l := by
  unfold hasFactB
  rw [List.any_eq_true]
  constructor
  · rintro ⟨y, hy, h⟩
    have h2 := (cmpFact_zero y x).1 (of_decide_eq_true h)
    exact h2 ▸ hy
  · intro h
    exact ⟨x, h, decide_eq_true ((cmpFact_zero x x).2 rfl)⟩
theorem addFact_has (l : List FactD) (x : FactD) : hasFactB (addFactL l x) x = true :=
  hasFactB_iff.2 ((addC_mem cmp_facts l x x).2 (.inr rfl))
theorem addFact_length (l : List FactD) (x : FactD) : (addFactL l x).length = l.length + (if hasFactB l x then 0 else 1) := by
  rw [addFact_eq]
  cases hasFactB l x with
  | true => rfl
  | false => exact insF_length _ _ _
theorem factIs_self {s : List Int} {g f : FactD} {k : Bool} (h : FactIs s (factFS g) f k) : k = factB s g ∧ (k = true → f = g) := by
  rcases h with ⟨h1, h2, rfl⟩ | ⟨h1, rfl, rfl⟩
  · have e1 := fOf_fact (fact_fmt h1)
    have hb : factFB g = true := by
      cases hg : factFB g with
      | true => rfl
      | false =>
        rw [factFS_no hg, factFS_yes (fact_fmt h1)] at h2
        cases h2
    have e2 := fOf_fact hb
    rw [h2] at e1
    have e : f = g := e1.symm.trans e2
    exact ⟨by rw [← e, h1], fun _ => e⟩
  · refine ⟨?_, fun h => by cases h⟩
    cases hg : factB s g with
    | false => rfl
    | true => exact absurd rfl (h1 g hg)
end Go.Proofs.YtpdmdfkcaabnaaaGreatDoor
