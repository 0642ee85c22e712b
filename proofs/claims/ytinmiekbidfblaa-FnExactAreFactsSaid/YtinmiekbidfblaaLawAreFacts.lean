/- The walk of the law FnExactAreFacts: it returns true, whatever the input. -/
import Derived.Test.YtinmiekbidfblaaAreFacts
import Derived.Test.YtinmiekbidfblaaFacts0
namespace Go.Proofs.Ytinmiekbidfblaa
open Go.RowKit
set_option linter.unusedVariables false
set_option linter.unusedSimpArgs false
set_option maxRecDepth 100000 in
set_option maxHeartbeats 8000000 in
theorem fnExactAreFacts_walk (v0 : Value) (l0 : List Int) (v1 : Value) (l1 : List FactD) (w : World) (g0 : intsV w v0 l0) (g1 : factsV w v1 l1)  :
    Calls Try.prog 4 #[v0, v1] w fun e w' => e = .returned (.bool true) ∧ Below w.heap.size w w' := by
  obtain ⟨p0, q0, rfl⟩ := slW.form g0
  obtain ⟨p1, q1, rfl⟩ := slW.form g1
  by_cases n0 : l0.length ≤ 1048576
  case neg =>
    go_enter Try.func4, Try.ntmps4
    go_wp2
    go_ret
    exact ⟨rfl, by (repeat (first | exact Below.refl _ _ | refine ba ?_ | refine bdr ?_ | refine bs ?_ (by simp)))⟩
  have rr : (factsB l0 l1 != factsB l0 l1) = false := by simp
  have rd0 : decide (l0 = l0) = true := by simp
  have rd1 : decide (l1 = l1) = true := by simp
  go_enter Try.func4, Try.ntmps4
  go_wp2_with fail
  refine (szFactS_any _ l1 (1048576) _ (factsV.below' g1 ?_) ⟨by omega, by omega⟩).mono ?_
  · (repeat (first | exact Below.refl _ _ | refine ba ?_ | refine bdr ?_ | refine bs ?_ (by simp)))
  rintro e w1 ⟨rfl, hb1⟩
  have D1 : Below w.heap.size w w1 := bt (by (repeat (first | exact Below.refl _ _ | refine ba ?_ | refine bdr ?_ | refine bs ?_ (by simp)))) hb1
  have B1 : Below w.heap.size w w1 := D1
  rcases left_cases (bulkFactS l1) (1048576) (by omega) with ⟨t0, t1⟩ | ⟨t0, t1⟩
  case inl =>
    have T1 := Lib.hid t1; clear t1
    go_wp2
    go_ret
    exact ⟨rfl, B1⟩
  have T1 := Lib.hid t1; clear t1
  obtain ⟨ql1, el11, el12⟩ := left_bd t0 (by omega) (by omega)
  clear t0
  have nl1 : l1.length ≤ 1048576 := by have h9 := ql1; unfold bulkFactS at h9; omega
  have nl1i : ∀ y ∈ l1, y.vals.length ≤ 1048576 := fun y hy => by have h9 := ql1; unfold bulkFactS at h9; have h8 := sum_ge_mem (f := fun x => bulkFact x) hy; unfold bulkFact at h8 h9; omega
  go_wp2_with fail
  refine (toIntS_any _ l0 _ (intsV.below' g0 ?_) n0).mono ?_
  · (repeat (first | exact B1 | refine ba ?_ | refine bdr ?_ | refine bs ?_ (by simp)))
  rintro e w2 ⟨d1v, d1f, rfl, d1h_2, d1fr, hb2⟩
  obtain ⟨d1a, d1c, rfl⟩ := slR.form d1h_2
  have D2 : Below w1.heap.size w1 w2 := bt (by (repeat (first | exact Below.refl _ _ | refine ba ?_ | refine bdr ?_ | refine bs ?_ (by simp)))) hb2
  have B2 : Below w.heap.size w w2 := bt B1 D2
  go_wp2_with fail
  refine (toFactS_any _ l1 _ (factsV.below' g1 ?_) nl1 nl1i).mono ?_
  · (repeat (first | exact B2 | refine ba ?_ | refine bdr ?_ | refine bs ?_ (by simp)))
  rintro e w3 ⟨d2v, d2f, rfl, d2h_3, d2fr, hb3⟩
  obtain ⟨d2a, d2c, rfl⟩ := slR.form d2h_3
  have D3 : Below w2.heap.size w2 w3 := bt (by (repeat (first | exact Below.refl _ _ | refine ba ?_ | refine bdr ?_ | refine bs ?_ (by simp)))) hb3
  have B3 : Below w.heap.size w w3 := bt B2 D3
  have d1h_3 := d1h_2.below' D3
  clear d1h_2
  go_wp2_with fail
  refine (specAreFacts_any _ l0 _ _ l1 _ _ (ints.below' d1h_3 ?_) (facts.below' d2h_3 ?_)).mono ?_
  · (repeat (first | exact Below.refl _ _ | refine ba ?_ | refine bdr ?_ | refine bs ?_ (by simp)))
  · (repeat (first | exact Below.refl _ _ | refine ba ?_ | refine bdr ?_ | refine bs ?_ (by simp)))
  rintro e w4 ⟨rfl, hb4⟩
  have D4 : Below w3.heap.size w3 w4 := bt (by (repeat (first | exact Below.refl _ _ | refine ba ?_ | refine bdr ?_ | refine bs ?_ (by simp)))) hb4
  have B4 : Below w.heap.size w w4 := bt B3 D4
  clear d1h_3 d2h_3
  go_wp2_with fail
  refine (toIntS_any _ l0 _ (intsV.below' g0 ?_) n0).mono ?_
  · (repeat (first | exact B4 | refine ba ?_ | refine bdr ?_ | refine bs ?_ (by simp)))
  rintro e w5 ⟨d3v, d3f, rfl, d3h_5, d3fr, hb5⟩
  obtain ⟨d3a, d3c, rfl⟩ := slR.form d3h_5
  have D5 : Below w4.heap.size w4 w5 := bt (by (repeat (first | exact Below.refl _ _ | refine ba ?_ | refine bdr ?_ | refine bs ?_ (by simp)))) hb5
  have B5 : Below w.heap.size w w5 := bt B4 D5
  go_wp2_with fail
  refine (toFactS_any _ l1 _ (factsV.below' g1 ?_) nl1 nl1i).mono ?_
  · (repeat (first | exact B5 | refine ba ?_ | refine bdr ?_ | refine bs ?_ (by simp)))
  rintro e w6 ⟨d4v, d4f, rfl, d4h_6, d4fr, hb6⟩
  obtain ⟨d4a, d4c, rfl⟩ := slR.form d4h_6
  have D6 : Below w5.heap.size w5 w6 := bt (by (repeat (first | exact Below.refl _ _ | refine ba ?_ | refine bdr ?_ | refine bs ?_ (by simp)))) hb6
  have B6 : Below w.heap.size w w6 := bt B5 D6
  have d3h_6 := d3h_5.below' D6
  clear d3h_5
  go_wp2_with fail
  refine (implAreFacts_any _ l0 _ _ l1 _ _ (ints.below' d3h_6 ?_) (facts.below' d4h_6 ?_)).mono ?_
  · (repeat (first | exact Below.refl _ _ | refine ba ?_ | refine bdr ?_ | refine bs ?_ (by simp)))
  · (repeat (first | exact Below.refl _ _ | refine ba ?_ | refine bdr ?_ | refine bs ?_ (by simp)))
  rintro e w7 ⟨rfl, hb7⟩
  have D7 : Below w6.heap.size w6 w7 := bt (by (repeat (first | exact Below.refl _ _ | refine ba ?_ | refine bdr ?_ | refine bs ?_ (by simp)))) hb7
  have B7 : Below w.heap.size w w7 := bt B6 D7
  have d3h_7 := d3h_6.below' D7
  have d4h_7 := d4h_6.below' D7
  clear d3h_6 d4h_6
  go_wp2_with fail
  refine (toIntS_any _ l0 _ (intsV.below' g0 ?_) n0).mono ?_
  · (repeat (first | exact B7 | refine ba ?_ | refine bdr ?_ | refine bs ?_ (by simp)))
  rintro e w8 ⟨d5v, d5f, rfl, d5h_8, d5fr, hb8⟩
  obtain ⟨d5a, d5c, rfl⟩ := slR.form d5h_8
  have D8 : Below w7.heap.size w7 w8 := bt (by (repeat (first | exact Below.refl _ _ | refine ba ?_ | refine bdr ?_ | refine bs ?_ (by simp)))) hb8
  have B8 : Below w.heap.size w w8 := bt B7 D8
  have d3h_8 := d3h_7.below' D8
  have d4h_8 := d4h_7.below' D8
  clear d3h_7 d4h_7
  go_wp2_with fail
  refine (eqIntS_any _ _ l0 l0 _ _ _ (ints.below' d3h_8 ?_) (ints.below' d5h_8 ?_)).mono ?_
  · (repeat (first | exact Below.refl _ _ | refine ba ?_ | refine bdr ?_ | refine bs ?_ (by simp)))
  · (repeat (first | exact Below.refl _ _ | refine ba ?_ | refine bdr ?_ | refine bs ?_ (by simp)))
  rintro e w9 ⟨rfl, hb9⟩
  have D9 : Below w8.heap.size w8 w9 := bt (by (repeat (first | exact Below.refl _ _ | refine ba ?_ | refine bdr ?_ | refine bs ?_ (by simp)))) hb9
  have B9 : Below w.heap.size w w9 := bt B8 D9
  have d4h_9 := d4h_8.below' D9
  clear d3h_8 d4h_8 d5h_8
  go_wp2_with fail
  refine (toFactS_any _ l1 _ (factsV.below' g1 ?_) nl1 nl1i).mono ?_
  · (repeat (first | exact B9 | refine ba ?_ | refine bdr ?_ | refine bs ?_ (by simp)))
  rintro e w10 ⟨d6v, d6f, rfl, d6h_10, d6fr, hb10⟩
  obtain ⟨d6a, d6c, rfl⟩ := slR.form d6h_10
  have D10 : Below w9.heap.size w9 w10 := bt (by (repeat (first | exact Below.refl _ _ | refine ba ?_ | refine bdr ?_ | refine bs ?_ (by simp)))) hb10
  have B10 : Below w.heap.size w w10 := bt B9 D10
  have d4h_10 := d4h_9.below' D10
  clear d4h_9
  go_wp2_with fail
  refine (eqFactS_any _ _ l1 l1 _ _ _ (facts.below' d4h_10 ?_) (facts.below' d6h_10 ?_)).mono ?_
  · (repeat (first | exact Below.refl _ _ | refine ba ?_ | refine bdr ?_ | refine bs ?_ (by simp)))
  · (repeat (first | exact Below.refl _ _ | refine ba ?_ | refine bdr ?_ | refine bs ?_ (by simp)))
  rintro e w11 ⟨rfl, hb11⟩
  have D11 : Below w10.heap.size w10 w11 := bt (by (repeat (first | exact Below.refl _ _ | refine ba ?_ | refine bdr ?_ | refine bs ?_ (by simp)))) hb11
  have B11 : Below w.heap.size w w11 := bt B10 D11
  clear d4h_10 d6h_10
  go_wp2
  go_ret
  exact ⟨rfl, B11⟩
end Go.Proofs.Ytinmiekbidfblaa
