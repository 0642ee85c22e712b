/- l4Less and AddTuple of the reference. Condition: not more than 2^20 tuples, none longer than 2^20. -/
import Derived.Test.YtpdmdfkcaabnaaaGreatDoorCopy
import Derived.Test.YtpdmdfkcaabnaaaGreatDoorOrder
import Derived.Test.YtpdmdfkcaabnaaaGreatDoorSorted
import Derived.Test.YtpdmdfkcaabnaaaGreatDoorCompare
import Derived.Test.YtpdmdfkcaabnaaaGreatDoorIdxS
import Derived.Test.YtpdmdfkcaabnaaaGreatDoorMC
namespace Go.Proofs.YtpdmdfkcaabnaaaGreatDoor
open Go.RowKit
set_option linter.unusedVariables false
set_option linter.unusedSimpArgs false
theorem any_take_succ {α : Type} (p : α → Bool) {l : List α} {k : Nat} (hk : k < l.length) : (l.take (k + 1)).any p = ((l.take k).any p || p l[k]) := by
  rw [List.take_succ_eq_append_getElem hk, List.any_append]; simp
theorem insF_drop' {α : Type} {p : α → Bool} {x : α} {l : List α} {k : Nat} (hk : k < l.length) : insF p x (l.drop k) = if p l[k] then x :: l[k] :: l.drop (k + 1) else l[k] :: insF p x (l.drop (k + 1)) := by
  rw [List.drop_eq_getElem_cons hk]; rfl
theorem addTuple_eq (l : List (List Int)) (x : List Int) : addTupleL l x = if l.any (fun y => decide (y = x)) then l else insF (fun y => decide (cmpL x y < 0)) x l := by
  unfold addTupleL addC
  have e : (l.any fun y => decide (cmpL y x = 0)) = l.any fun y => decide (y = x) := by
    congr 1; funext y; rw [Bool.eq_iff_iff]; simp [cmpL_zero]
  rw [e, insF_turned cmp_ints]
end Go.Proofs.YtpdmdfkcaabnaaaGreatDoor
