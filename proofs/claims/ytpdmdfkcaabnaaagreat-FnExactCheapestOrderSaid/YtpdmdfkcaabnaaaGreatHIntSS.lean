/- The laws' helpers at [][]int: size, copy, comparison, marks, marks held. Conditions: the sizes that the laws themselves ask. -/
import Derived.Test.YtpdmdfkcaabnaaaGreatHBase
import Derived.StillTailTactics
namespace Go.Proofs.YtpdmdfkcaabnaaaGreat
open Go.RowKit
set_option linter.unusedVariables false
set_option linter.unusedSimpArgs false
theorem infoIntSS : (Tryz.prog.info? 22).map (fun i => (i.zero, i.size, i.bytes)) = some (some (.slice none 0 0), 1, 24) := by kernel_rfl
theorem slIntSS : SlT Tryz.prog 95 22 (.slice none 0 0) 1 24 := slT_of Tryz.underlying95 infoIntSS rfl (by decide)
def bulkIntSS (l : List (List Int)) : Nat := l.length + (l.map fun x => x.length).sum
def markIntSD (k : Int) (x : List Int) : List Int := marks k x.length
def cntIntS (x : List Int) : Nat := x.length
end Go.Proofs.YtpdmdfkcaabnaaaGreat
