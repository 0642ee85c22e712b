/- cmp.Compare, cmp.Or, slices.Compare at ints; CompareFacts of the program and of the reference; slices.Equal and l2Ints; l2Has. No condition. -/
import Derived.Test.YtojjojcmemifhaaDoorCalc
import Derived.Deep.RegionHeld3
import Derived.StillTailTactics
namespace Go.Proofs.YtojjojcmemifhaaDoor
open Go.RowKit
set_option linter.unusedVariables false
set_option linter.unusedSimpArgs false
/-- The first that is not 0, or 0. -/
def orL : List Int → Int
  | [] => 0
  | x :: t => if x = 0 then orL t else x
theorem orL_at {l : List Int} {k : Nat} (h : k < l.length) : orL (l.drop k) = if l[k] = 0 then orL (l.drop (k + 1)) else l[k] := by
  rw [List.drop_eq_getElem_cons h]; rfl
end Go.Proofs.YtojjojcmemifhaaDoor
