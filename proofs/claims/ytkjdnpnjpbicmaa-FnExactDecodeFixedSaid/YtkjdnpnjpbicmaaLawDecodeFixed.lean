/- The walk of the law FnExactDecodeFixed: it returns true, whatever the input. -/
import Derived.Test.YtkjdnpnjpbicmaaFixed
namespace Go.Proofs.Ytkjdnpnjpbicmaa
open Go.RowKit
set_option linter.unusedVariables false
set_option linter.unusedSimpArgs false
set_option maxHeartbeats 400000 in
theorem fnExactDecodeFixed_walk (s : ByteArray) (n : Int) (hs0 : s.size ≤ maxLen) (hn0 : (Lit.int .i64 n).wf = true) (w : World) :
    Calls Try.prog 6 #[.string s, .int .i64 n] w fun e w' => e = .returned (.bool true) ∧ Grown w w' := by
  unfold maxLen at hs0
  by_cases hs : s.size ≤ 1048576
  · cases h : fixOk s n <;>
    · have H := Lib.hid h; clear h
      go_enter Try.func6, Try.ntmps6
      go_wp2_with (first
        | (go_at_call 13; refine (f13_any _ _ _ hs).mono ?_; rintro e w' ⟨rfl, rfl⟩)
        | (go_at_call 14; refine (f14_any _ _ _ hs).mono ?_; rintro e w' ⟨rfl, rfl⟩))
      all_goals
        go_ret
        exact ⟨ret_bool (by simp_all), Grown.refl _⟩
  · go_enter Try.func6, Try.ntmps6
    go_wp2
    go_ret
    exact ⟨rfl, Grown.refl _⟩
end Go.Proofs.Ytkjdnpnjpbicmaa
