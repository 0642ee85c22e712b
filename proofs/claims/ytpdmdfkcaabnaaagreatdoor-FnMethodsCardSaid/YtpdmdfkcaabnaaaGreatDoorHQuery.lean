/- The laws' helpers at Query and at slices of it: size, copy, comparison, marks, marks held. Conditions: the sizes that the laws themselves ask. -/
import Derived.Test.YtpdmdfkcaabnaaaGreatDoorMA
import Derived.StillTailTactics
import Derived.Test.YtpdmdfkcaabnaaaGreatDoorMC
namespace Go.Proofs.YtpdmdfkcaabnaaaGreatDoor
open Go.RowKit
set_option linter.unusedVariables false
set_option linter.unusedSimpArgs false
instance : DecidableEq QueryD := fun a b => decidable_of_iff (a.head = b.head ∧ a.atoms = b.atoms) (by cases a; cases b; simp)
instance : Inhabited QueryD := ⟨⟨[], []⟩⟩
def bulkQuery (x : QueryD) : Nat := x.head.length + bulkAtomS x.atoms
end Go.Proofs.YtpdmdfkcaabnaaaGreatDoor
