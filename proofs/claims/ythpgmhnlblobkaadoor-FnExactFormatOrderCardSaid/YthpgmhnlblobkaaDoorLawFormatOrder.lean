/- The walk of the law FnExactFormatOrder: it returns true, whatever the input. -/
import Derived.Test.YthpgmhnlblobkaaDoorFmtOrd
import Derived.Test.YthpgmhnlblobkaaDoorHStep
import Derived.Test.YthpgmhnlblobkaaDoorFacts0
namespace Go.Proofs.YthpgmhnlblobkaaDoor
open Go.RowKit
set_option linter.unusedVariables false
set_option linter.unusedSimpArgs false
set_option maxRecDepth 100000 in
set_option maxHeartbeats 8000000 in
theorem fnExactFormatOrder_walk (v0 : Value) (l0 : List StepD) (w : World) (g0 : stepsV w v0 l0) (hT : Lib.TabBelow Tryd.prog w.heap.size w "internal/strconv.uint64pow10" .u64 Lib.pow10Tab) :
    Calls Tryd.prog 5 #[v0] w fun e w' => e = .returned (.bool true) ∧ Below w.heap.size w w' := by
  obtain ⟨p0, q0, rfl⟩ := slW.form g0
  have rd0 : decide (l0 = l0) = true := by simp
  go_enter Tryd.func5, Tryd.ntmps5
  go_wp2_with fail
  refine (eB (szStepS_any _ l0 (1048576) _ (stepsV.below' g0 ?_) ⟨by omega, by omega⟩)).mono ?_
  · (repeat (first | exact Below.refl _ _ | refine ba ?_ | refine bdr ?_ | refine bs ?_ (by simp)))
  rintro e w1 ⟨rfl, hb1⟩
  have D1 : Below w.heap.size w w1 := bt (by (repeat (first | exact Below.refl _ _ | refine ba ?_ | refine bdr ?_ | refine bs ?_ (by simp)))) hb1
  have B1 : Below w.heap.size w w1 := D1
  rcases left_cases l0.length (1048576) (by omega) with ⟨t0, t1⟩ | ⟨t0, t1⟩
  case inl =>
    have T1 := Lib.hid t1; clear t1
    go_wp2
    go_ret
    exact ⟨rfl, B1⟩
  have T1 := Lib.hid t1; clear t1
  obtain ⟨ql0, el01, el02⟩ := left_bd t0 (by omega) (by omega)
  clear t0
  have nl0 : l0.length ≤ 1048576 := ql0
  go_wp2_with fail
  refine (toStepS_any _ l0 _ (stepsV.below' g0 ?_) nl0).mono ?_
  · (repeat (first | exact B1 | refine ba ?_ | refine bdr ?_ | refine bs ?_ (by simp)))
  rintro e w2 ⟨d1v, d1f, rfl, d1h_2, d1fr, hb2⟩
  obtain ⟨d1a, d1c, rfl⟩ := slR.form d1h_2
  have D2 : Below w1.heap.size w1 w2 := bt (by (repeat (first | exact Below.refl _ _ | refine ba ?_ | refine bdr ?_ | refine bs ?_ (by simp)))) hb2
  have B2 : Below w.heap.size w w2 := bt B1 D2
  go_wp2_with fail
  refine (specFormatOrder_any _ l0 _ _ (steps.below' d1h_2 ?_) nl0).mono ?_
  · (repeat (first | exact Below.refl _ _ | refine ba ?_ | refine bdr ?_ | refine bs ?_ (by simp)))
  rintro e w3 ⟨rfl, hb3⟩
  have D3 : Below w2.heap.size w2 w3 := bt (by (repeat (first | exact Below.refl _ _ | refine ba ?_ | refine bdr ?_ | refine bs ?_ (by simp)))) hb3
  have B3 : Below w.heap.size w w3 := bt B2 D3
  clear d1h_2
  go_wp2_with fail
  refine (toStepS_any _ l0 _ (stepsV.below' g0 ?_) nl0).mono ?_
  · (repeat (first | exact B3 | refine ba ?_ | refine bdr ?_ | refine bs ?_ (by simp)))
  rintro e w4 ⟨d2v, d2f, rfl, d2h_4, d2fr, hb4⟩
  obtain ⟨d2a, d2c, rfl⟩ := slR.form d2h_4
  have D4 : Below w3.heap.size w3 w4 := bt (by (repeat (first | exact Below.refl _ _ | refine ba ?_ | refine bdr ?_ | refine bs ?_ (by simp)))) hb4
  have B4 : Below w.heap.size w w4 := bt B3 D4
  go_wp2_with fail
  refine (implFormatOrder_any _ l0 _ _ (steps.below' d2h_4 ?_) nl0 (Tab.on hT (by (repeat (first | exact B4 | refine ba ?_ | refine bdr ?_ | refine bs ?_ (by simp)))))).mono ?_
  · (repeat (first | exact Below.refl _ _ | refine ba ?_ | refine bdr ?_ | refine bs ?_ (by simp)))
  rintro e w5 ⟨rfl, hb5⟩
  have D5 : Below w4.heap.size w4 w5 := bt (by (repeat (first | exact Below.refl _ _ | refine ba ?_ | refine bdr ?_ | refine bs ?_ (by simp)))) hb5
  have B5 : Below w.heap.size w w5 := bt B4 D5
  have d2h_5 := d2h_4.below' D5
  clear d2h_4
  go_wp2_with fail
  refine (toStepS_any _ l0 _ (stepsV.below' g0 ?_) nl0).mono ?_
  · (repeat (first | exact B5 | refine ba ?_ | refine bdr ?_ | refine bs ?_ (by simp)))
  rintro e w6 ⟨d3v, d3f, rfl, d3h_6, d3fr, hb6⟩
  obtain ⟨d3a, d3c, rfl⟩ := slR.form d3h_6
  have D6 : Below w5.heap.size w5 w6 := bt (by (repeat (first | exact Below.refl _ _ | refine ba ?_ | refine bdr ?_ | refine bs ?_ (by simp)))) hb6
  have B6 : Below w.heap.size w w6 := bt B5 D6
  have d2h_6 := d2h_5.below' D6
  clear d2h_5
  go_wp2_with fail
  refine (eqStepS_any _ _ l0 l0 _ _ _ (steps.below' d2h_6 ?_) (steps.below' d3h_6 ?_)).mono ?_
  · (repeat (first | exact Below.refl _ _ | refine ba ?_ | refine bdr ?_ | refine bs ?_ (by simp)))
  · (repeat (first | exact Below.refl _ _ | refine ba ?_ | refine bdr ?_ | refine bs ?_ (by simp)))
  rintro e w7 ⟨rfl, hb7⟩
  have D7 : Below w6.heap.size w6 w7 := bt (by (repeat (first | exact Below.refl _ _ | refine ba ?_ | refine bdr ?_ | refine bs ?_ (by simp)))) hb7
  have B7 : Below w.heap.size w w7 := bt B6 D7
  clear d2h_6 d3h_6
  go_wp2
  go_ret
  exact ⟨rfl, B7⟩
end Go.Proofs.YthpgmhnlblobkaaDoor
