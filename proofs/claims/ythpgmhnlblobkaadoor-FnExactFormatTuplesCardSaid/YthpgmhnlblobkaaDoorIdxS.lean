/- slices.IndexFunc, ContainsFunc, EqualFunc at slices of structs and of slices. No condition. -/
import Derived.Test.YthpgmhnlblobkaaDoorIdxInt
import Derived.Test.YthpgmhnlblobkaaDoorCalc
import Derived.Test.YthpgmhnlblobkaaDoorHFact
import Derived.Test.YthpgmhnlblobkaaDoorHMeth
import Derived.Test.YthpgmhnlblobkaaDoorHAcc
import Derived.Test.YthpgmhnlblobkaaDoorHAtom
import Derived.Test.YthpgmhnlblobkaaDoorHStep
import Derived.Test.YthpgmhnlblobkaaDoorHIntSS
namespace Go.Proofs.YthpgmhnlblobkaaDoor
open Go.RowKit
set_option linter.unusedVariables false
set_option linter.unusedSimpArgs false
theorem atoms.al {w : World} {v : Value} {l : List AtomD} {f : List Nat} (h : atoms w v l f) (o : Obj) : atoms (w.alloc o) v l f := h.below' (ba (Below.refl _ _))
theorem atoms.dn {w : World} {v : Value} {l : List AtomD} {f : List Nat} (h : atoms w v l f) (n : Nat) : atoms (w.drewN n) v l f := h.frame fun _ _ => rfl
theorem steps.al {w : World} {v : Value} {l : List StepD} {f : List Nat} (h : steps w v l f) (o : Obj) : steps (w.alloc o) v l f := h.below' (ba (Below.refl _ _))
theorem steps.dn {w : World} {v : Value} {l : List StepD} {f : List Nat} (h : steps w v l f) (n : Nat) : steps (w.drewN n) v l f := h.frame fun _ _ => rfl
theorem intss.al {w : World} {v : Value} {l : List (List Int)} {f : List Nat} (h : intss w v l f) (o : Obj) : intss (w.alloc o) v l f := h.below' (ba (Below.refl _ _))
theorem intss.dn {w : World} {v : Value} {l : List (List Int)} {f : List Nat} (h : intss w v l f) (n : Nat) : intss (w.drewN n) v l f := h.frame fun _ _ => rfl
end Go.Proofs.YthpgmhnlblobkaaDoor
