/- The walk of the law FnExactIsSchema: it returns true, whatever the input. -/
import Derived.Test.YtkhihnoeapfaaaaSchema
namespace Go.Proofs.Ytkhihnoeapfaaaa
open Go.RowKit
set_option linter.unusedVariables false
set_option linter.unusedSimpArgs false
set_option maxRecDepth 100000 in
set_option maxHeartbeats 1600000 in
theorem fnExactIsSchema_walk (v : Value) (l : List Int) (w : World) (h : intsV w v l) :
    Calls Try.prog 3 #[v] w fun e w' => e = .returned (.bool true) ∧ Below w.heap.size w w' := by
  obtain ⟨a, cap, rfl⟩ := slW.form h
  have hla := slW.le_max h
  by_cases hn : l.length ≤ 1048576
  · go_enter Try.func3, Try.ntmps3
    go_wp2_with fail
    refine (toIntS_any _ l _ h hn).mono ?_; rintro e w1 ⟨u1, f1, rfl, hu1, hf1, hb1⟩
    have B1 := hb1
    go_wp2_with fail
    refine (specIsSchema_any _ l f1 _ hu1).mono ?_; rintro e w2 ⟨rfl, hb2⟩
    have B2 := B1.trans (hb2.mono B1.size)
    go_wp2_with fail
    refine (toIntS_any _ l _ (h.below' B2) hn).mono ?_; rintro e w3 ⟨u3, f3, rfl, hu3, hf3, hb3⟩
    have B3 := B2.trans (hb3.mono B2.size)
    go_wp2_with fail
    refine (implIsSchema_any _ l f3 _ hu3).mono ?_; rintro e w4 ⟨rfl, hb4⟩
    have B4 := B3.trans (hb4.mono B3.size)
    have hu4 := hu3.below' hb4
    go_wp2_with fail
    refine (toIntS_any _ l _ (h.below' B4) hn).mono ?_; rintro e w5 ⟨u5, f5, rfl, hu5, hf5, hb5⟩
    have B5 := B4.trans (hb5.mono B4.size)
    go_wp2_with fail
    refine (eqIntS_any _ _ l l f3 f5 _ (hu4.below' hb5) hu5).mono ?_; rintro e w6 ⟨rfl, hb6⟩
    have B6 := B5.trans (hb6.mono B5.size)
    go_wp2
    all_goals
      go_ret
      exact ⟨ret_bool (by simp_all), B6⟩
  · go_enter Try.func3, Try.ntmps3
    go_wp2
    go_ret
    exact ⟨rfl, Below.refl _ _⟩
end Go.Proofs.Ytkhihnoeapfaaaa
