/- The walk of the law FnExactFormatInt: it returns true, whatever the input. -/
import Derived.Test.YthpgmhnlblobkaaDoorFmtStr
import Derived.OpenShut
namespace Go.Proofs.YthpgmhnlblobkaaDoor
open Go.RowKit
set_option linter.unusedVariables false
set_option linter.unusedSimpArgs false
theorem fnExactFormatInt_walk (a0 : Int) (w : World) (g0 : (Lit.int .i64 a0).wf = true) (hT : Lib.TabBelow Tryd.prog w.heap.size w "internal/strconv.uint64pow10" .u64 Lib.pow10Tab) :
    Calls Tryd.prog 3 #[.int .i64 a0] w fun e w' => e = .returned (.bool true) ∧ Below w.heap.size w w' := by
  have hI : I64 a0 := ⟨by have := (Go.bounds_i64 g0).1; omega, by have := (Go.bounds_i64 g0).2; omega⟩
  go_enter Tryd.func3, Tryd.ntmps3
  go_wp2_with fail
  refine (specFormatInt_any a0 _ hI).mono ?_
  rintro e w1 ⟨rfl, hb1⟩
  have hT1 := hT _ hb1
  go_wp2_with fail
  refine (implFormatInt_any a0 _ hI hT1).mono ?_
  rintro e w2 ⟨rfl, hb2⟩
  have hb3 := bt hb1 hb2
  go_wp2
  go_ret
  exact ⟨rfl, hb3⟩
end Go.Proofs.YthpgmhnlblobkaaDoor
