/- The walks of the laws FnExactConstants, FnExactIsVar and FnExactIsTerm: each returns true, whatever the input. -/
import Derived.Test.YtkjdnpnjpbicmaaInt
namespace Go.Proofs.Ytkjdnpnjpbicmaa
open Go.RowKit
set_option linter.unusedVariables false
set_option linter.unusedSimpArgs false
theorem fnExactConstants_walk (w : World) :
    Calls Try.prog 3 #[] w fun e w' => e = .returned (.bool true) ∧ Grown w w' := by
  go_enter Try.func3, Try.ntmps3
  go_wp2
  go_ret
  exact ⟨rfl, Grown.refl _⟩
theorem fnExactIsVar_walk (x : Int) (_wf : (Lit.int .i64 x).wf = true) (w : World) :
    Calls Try.prog 4 #[.int .i64 x] w fun e w' => e = .returned (.bool true) ∧ Grown w w' := by
  cases h : isVarB x <;>
  · have H := Lib.hid h; clear h
    go_enter Try.func4, Try.ntmps4
    go_wp2_with (first
      | (go_at_call 9; refine (f9_any _ _).mono ?_; rintro e w' ⟨rfl, rfl⟩)
      | (go_at_call 10; refine (f10_any _ _).mono ?_; rintro e w' ⟨rfl, rfl⟩))
    all_goals
      go_ret
      exact ⟨ret_bool (by simp_all), Grown.refl _⟩
theorem fnExactIsTerm_walk (x : Int) (_wf : (Lit.int .i64 x).wf = true) (w : World) :
    Calls Try.prog 5 #[.int .i64 x] w fun e w' => e = .returned (.bool true) ∧ Grown w w' := by
  cases h : isTermB x <;>
  · have H := Lib.hid h; clear h
    go_enter Try.func5, Try.ntmps5
    go_wp2_with (first
      | (go_at_call 11; refine (f11_any _ _).mono ?_; rintro e w' ⟨rfl, rfl⟩)
      | (go_at_call 12; refine (f12_any _ _).mono ?_; rintro e w' ⟨rfl, rfl⟩))
    all_goals
      go_ret
      exact ⟨ret_bool (by simp_all), Grown.refl _⟩
end Go.Proofs.Ytkjdnpnjpbicmaa
