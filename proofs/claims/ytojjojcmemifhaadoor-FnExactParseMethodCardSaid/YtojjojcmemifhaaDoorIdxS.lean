/- slices.IndexFunc, ContainsFunc, EqualFunc at slices of structs and of slices. No condition. -/
import Derived.Test.YtojjojcmemifhaaDoorIdxInt
import Derived.Test.YtojjojcmemifhaaDoorCalc
import Derived.Test.YtojjojcmemifhaaDoorHFact
import Derived.Test.YtojjojcmemifhaaDoorHMeth
import Derived.Test.YtojjojcmemifhaaDoorHAcc
import Derived.Test.YtojjojcmemifhaaDoorHAtom
import Derived.Test.YtojjojcmemifhaaDoorHStep
import Derived.Test.YtojjojcmemifhaaDoorHIntSS
namespace Go.Proofs.YtojjojcmemifhaaDoor
open Go.RowKit
set_option linter.unusedVariables false
set_option linter.unusedSimpArgs false
end Go.Proofs.YtojjojcmemifhaaDoor
