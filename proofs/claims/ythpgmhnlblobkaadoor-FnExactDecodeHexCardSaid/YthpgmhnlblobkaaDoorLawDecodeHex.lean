/- The walk of the law FnExactDecodeHex: it returns true, whatever the input. -/
import Derived.Test.YthpgmhnlblobkaaDoorDecHex
namespace Go.Proofs.YthpgmhnlblobkaaDoor
open Go.RowKit
set_option linter.unusedVariables false
set_option linter.unusedSimpArgs false
set_option maxHeartbeats 800000 in
theorem fnExactDecodeHex_walk (s : ByteArray) (w : World) (hs0 : s.size ≤ maxLen) {tp : TypeId} {p : Value} (hT : w.cell? ⟨0, 0, none⟩ = some (.iface tp p)) :
    Calls Tryd.prog 11 #[.string s] w fun e w' => e = .returned (.bool true) ∧ Below w.heap.size w w' := by
  unfold maxLen at hs0
  by_cases hs : s.size ≤ 1048576
  · have h1 := specDecodeHex_any s w hs
    have h2 := fun w1 (hb : Below w.heap.size w w1) => implDecodeHex_any s w1 hs tp p (cell_below hT hb)
    cases hok : hexOk s.data.toList with
    | true =>
      rw [hok] at h1 h2
      have Hok := Lib.hid hok
      clear hok
      go_enter Tryd.func11, Tryd.ntmps11
      go_wp2_with fail
      refine h1.mono ?_
      rintro e w1 ⟨rfl, hb1⟩
      have h3 := h2 w1 hb1
      clear h1 h2
      go_wp2_with fail
      refine h3.mono ?_
      rintro e w2 ⟨rfl, hb2⟩
      clear h3
      have hb3 := bt hb1 hb2
      go_wp2
      go_ret
      exact ⟨rfl, hb3⟩
    | false =>
      rw [hok] at h1 h2
      have Hok := Lib.hid hok
      clear hok
      go_enter Tryd.func11, Tryd.ntmps11
      go_wp2_with fail
      refine h1.mono ?_
      rintro e w1 ⟨rfl, hb1⟩
      have h3 := h2 w1 hb1
      clear h1 h2
      go_wp2_with fail
      refine h3.mono ?_
      rintro e w2 ⟨rfl, hb2⟩
      clear h3
      have hb3 := bt hb1 hb2
      go_wp2
      go_ret
      exact ⟨rfl, hb3⟩
  · go_enter Tryd.func11, Tryd.ntmps11
    go_wp2
    go_ret
    exact ⟨rfl, Below.refl _ _⟩
end Go.Proofs.YthpgmhnlblobkaaDoor
