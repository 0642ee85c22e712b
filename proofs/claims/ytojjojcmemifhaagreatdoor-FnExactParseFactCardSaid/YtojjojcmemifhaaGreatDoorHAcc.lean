/- The laws' helpers at Access and at slices of it: size, copy, comparison, marks, marks held. Conditions: the sizes that the laws themselves ask. -/
import Derived.Test.YtojjojcmemifhaaGreatDoorHBase
import Derived.StillTailTactics
namespace Go.Proofs.YtojjojcmemifhaaGreatDoor
open Go.RowKit
set_option linter.unusedVariables false
set_option linter.unusedSimpArgs false
instance : DecidableEq AccD := fun a b => decidable_of_iff (a.meth = b.meth ∧ a.vals = b.vals) (by cases a; cases b; simp)
instance : Inhabited AccD := ⟨⟨0, []⟩⟩
def bulkAccess (x : AccD) : Nat := x.vals.length
theorem infoAccessS : (Tryz.prog.info? 28).map (fun i => (i.zero, i.size, i.bytes)) = some (some (.agg #[.int .i64 0, .slice none 0 0]), 2, 32) := by kernel_rfl
theorem slAccessS : SlT Tryz.prog 49 28 (.agg #[.int .i64 0, .slice none 0 0]) 2 32 := slT_of Tryz.underlying49 infoAccessS rfl (by decide)
def bulkAccessS (l : List AccD) : Nat := l.length + (l.map fun x => bulkAccess x).sum
def markAccessD (k : Int) (x : AccD) : AccD := { meth := k, vals := marks (k + 1) x.vals.length }
def cntAccess (x : AccD) : Nat := 1 + x.vals.length
end Go.Proofs.YtojjojcmemifhaaGreatDoor
