/- slices.IndexFunc, ContainsFunc, EqualFunc at slices of structs and of slices. No condition. -/
import Derived.Test.YtkjlfhccjpimcaaDoorIdxInt
import Derived.Test.YtkjlfhccjpimcaaDoorCalc
import Derived.Test.YtkjlfhccjpimcaaDoorHFact
import Derived.Test.YtkjlfhccjpimcaaDoorHMeth
import Derived.Test.YtkjlfhccjpimcaaDoorHAcc
import Derived.Test.YtkjlfhccjpimcaaDoorHAtom
import Derived.Test.YtkjlfhccjpimcaaDoorHStep
import Derived.Test.YtkjlfhccjpimcaaDoorHIntSS
namespace Go.Proofs.YtkjlfhccjpimcaaDoor
open Go.RowKit
set_option linter.unusedVariables false
set_option linter.unusedSimpArgs false
theorem atoms.al {w : World} {v : Value} {l : List AtomD} {f : List Nat} (h : atoms w v l f) (o : Obj) : atoms (w.alloc o) v l f := h.below' (ba (Below.refl _ _))
theorem atoms.dn {w : World} {v : Value} {l : List AtomD} {f : List Nat} (h : atoms w v l f) (n : Nat) : atoms (w.drewN n) v l f := h.frame fun _ _ => rfl
end Go.Proofs.YtkjlfhccjpimcaaDoor
