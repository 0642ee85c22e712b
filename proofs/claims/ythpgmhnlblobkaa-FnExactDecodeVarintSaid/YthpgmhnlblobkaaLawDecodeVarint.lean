/- The walk of the law FnExactDecodeVarint: it returns true, whatever the input. -/
import Derived.Test.YthpgmhnlblobkaaVarI
namespace Go.Proofs.Ythpgmhnlblobkaa
open Go.RowKit
set_option linter.unusedVariables false
set_option linter.unusedSimpArgs false
set_option maxHeartbeats 800000 in
theorem fnExactDecodeVarint_walk (s : ByteArray) (hs0 : s.size ≤ maxLen) (w : World) :
    Calls Try.prog 3 #[.string s] w fun e w' => e = .returned (.bool true) ∧ Below w.heap.size w w' := by
  unfold maxLen at hs0
  by_cases hs : s.size ≤ 1048576
  · go_enter Try.func3, Try.ntmps3
    go_wp2_with fail
    refine (specDecodeVarint_any s _ hs).mono ?_
    rintro e w1 ⟨v1, n1, rfl, hd1, hb1⟩
    go_wp2_with fail
    refine (implDecodeVarint_any s _ hs).mono ?_
    rintro e w2 ⟨v2, n2, rfl, hd2, hb2⟩
    obtain ⟨rfl, rfl⟩ := DecIs.one hd1 hd2
    have hb3 := hb1.trans (hb2.mono hb1.size)
    clear hd1 hd2
    go_wp2
    go_ret
    exact ⟨rfl, hb3⟩
  · go_enter Try.func3, Try.ntmps3
    go_wp2
    go_ret
    exact ⟨rfl, Below.refl _ _⟩
end Go.Proofs.Ythpgmhnlblobkaa
