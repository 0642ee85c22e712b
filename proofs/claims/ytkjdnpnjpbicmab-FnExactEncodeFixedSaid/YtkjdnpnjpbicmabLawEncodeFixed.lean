/- The walk of the law FnExactEncodeFixed: it returns true, whatever the input. -/
import Derived.Test.YtkjdnpnjpbicmabEncFixed
import Derived.OpenShut
namespace Go.Proofs.Ytkjdnpnjpbicmab
open Go.RowKit
set_option linter.unusedVariables false
set_option linter.unusedSimpArgs false
set_option maxHeartbeats 400000 in
theorem fnExactEncodeFixed_walk (n width : Int) (hn0 : (Lit.int .i64 n).wf = true) (hd0 : (Lit.int .i64 width).wf = true) (w : World) :
    Calls Try.prog 3 #[.int .i64 n, .int .i64 width] w fun e w' => e = .returned (.bool true) ∧ Below w.heap.size w w' := by
  have hn : n ≤ 9223372036854775807 := by have := (Go.bounds_i64 hn0).2; omega
  go_enter Try.func3, Try.ntmps3
  go_wp2_with fail
  refine (f4_any n width _ hn).mono ?_; rintro e w1 ⟨rfl, hb1⟩
  go_wp2_with fail
  refine (f5_any n width _ hn).mono ?_; rintro e w2 ⟨rfl, hb2⟩
  go_wp2
  go_ret
  exact ⟨rfl, hb1.trans (hb2.mono hb1.size)⟩
end Go.Proofs.Ytkjdnpnjpbicmab
