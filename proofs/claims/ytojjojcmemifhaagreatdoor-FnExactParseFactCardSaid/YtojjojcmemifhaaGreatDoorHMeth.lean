/- The laws' helpers at Method and at slices of it: size, copy, comparison, marks, marks held. Conditions: the sizes that the laws themselves ask. -/
import Derived.Test.YtojjojcmemifhaaGreatDoorHBase
import Derived.StillTailTactics
namespace Go.Proofs.YtojjojcmemifhaaGreatDoor
open Go.RowKit
set_option linter.unusedVariables false
set_option linter.unusedSimpArgs false
instance : DecidableEq MethD := fun a b => decidable_of_iff (a.rel = b.rel ∧ a.inputs = b.inputs ∧ a.limit = b.limit ∧ a.cost = b.cost ∧ a.quota = b.quota) (by cases a; cases b; simp)
instance : Inhabited MethD := ⟨⟨0, [], 0, 0, 0⟩⟩
def bulkMethod (x : MethD) : Nat := x.inputs.length
theorem infoMethodS : (Tryz.prog.info? 38).map (fun i => (i.zero, i.size, i.bytes)) = some (some (.agg #[.int .i64 0, .slice none 0 0, .int .i64 0, .int .i64 0, .int .i64 0]), 5, 56) := by kernel_rfl
theorem slMethodS : SlT Tryz.prog 25 38 (.agg #[.int .i64 0, .slice none 0 0, .int .i64 0, .int .i64 0, .int .i64 0]) 5 56 := slT_of Tryz.underlying25 infoMethodS rfl (by decide)
def bulkMethodS (l : List MethD) : Nat := l.length + (l.map fun x => bulkMethod x).sum
def markMethodD (k : Int) (x : MethD) : MethD := { rel := k, inputs := marks (k + 1) x.inputs.length, limit := k + 1 + (x.inputs.length : Int), cost := k + 1 + (x.inputs.length : Int) + 1, quota := k + 1 + (x.inputs.length : Int) + 1 + 1 }
def cntMethod (x : MethD) : Nat := 1 + x.inputs.length + 1 + 1 + 1
end Go.Proofs.YtojjojcmemifhaaGreatDoor
