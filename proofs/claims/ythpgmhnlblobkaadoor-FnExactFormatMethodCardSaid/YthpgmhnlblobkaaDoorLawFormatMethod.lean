/- The walk of the law FnExactFormatMethod: it returns true, whatever the input. -/
import Derived.Test.YthpgmhnlblobkaaDoorFmtMeth
import Derived.Test.YthpgmhnlblobkaaDoorHMeth
import Derived.Test.YthpgmhnlblobkaaDoorFacts0
namespace Go.Proofs.YthpgmhnlblobkaaDoor
open Go.RowKit
set_option linter.unusedVariables false
set_option linter.unusedSimpArgs false
set_option maxRecDepth 100000 in
set_option maxHeartbeats 8000000 in
theorem fnExactFormatMethod_walk (cs0 : List Value) (x0 : MethD) (w : World) (g0 : methW w cs0 x0) (hT : Lib.TabBelow Tryd.prog w.heap.size w "internal/strconv.uint64pow10" .u64 Lib.pow10Tab) :
    Calls Tryd.prog 9 #[.agg cs0.toArray] w fun e w' => e = .returned (.bool true) ∧ Below w.heap.size w w' := by
  obtain ⟨v0inputs, rfl, i0rel, i0limit, i0cost, i0quota, h0inputs⟩ := g0
  obtain ⟨p0inputs, q0inputs, rfl⟩ := slW.form h0inputs
  have b1c0_0 : (w.alloc (.cells #[.int .i64 x0.rel, (.slice p0inputs x0.inputs.length q0inputs), .int .i64 x0.limit, .int .i64 x0.cost, .int .i64 x0.quota] 63)).cell? ⟨w.heap.size, 0, none⟩ = some (.int .i64 x0.rel) := cell_new w _ _ 0 _ rfl
  have b1c1_0 : (w.alloc (.cells #[.int .i64 x0.rel, (.slice p0inputs x0.inputs.length q0inputs), .int .i64 x0.limit, .int .i64 x0.cost, .int .i64 x0.quota] 63)).cell? ⟨w.heap.size, 1, none⟩ = some ((.slice p0inputs x0.inputs.length q0inputs)) := cell_new w _ _ 1 _ rfl
  have b1c2_0 : (w.alloc (.cells #[.int .i64 x0.rel, (.slice p0inputs x0.inputs.length q0inputs), .int .i64 x0.limit, .int .i64 x0.cost, .int .i64 x0.quota] 63)).cell? ⟨w.heap.size, 2, none⟩ = some (.int .i64 x0.limit) := cell_new w _ _ 2 _ rfl
  have b1c3_0 : (w.alloc (.cells #[.int .i64 x0.rel, (.slice p0inputs x0.inputs.length q0inputs), .int .i64 x0.limit, .int .i64 x0.cost, .int .i64 x0.quota] 63)).cell? ⟨w.heap.size, 3, none⟩ = some (.int .i64 x0.cost) := cell_new w _ _ 3 _ rfl
  have b1c4_0 : (w.alloc (.cells #[.int .i64 x0.rel, (.slice p0inputs x0.inputs.length q0inputs), .int .i64 x0.limit, .int .i64 x0.cost, .int .i64 x0.quota] 63)).cell? ⟨w.heap.size, 4, none⟩ = some (.int .i64 x0.quota) := cell_new w _ _ 4 _ rfl
  have rd0 : decide (x0 = x0) = true := by simp
  go_enter Tryd.func9, Tryd.ntmps9
  go_wp2_with fail
  refine (szMethod_any x0 _ (1048576) _ (intsV.below' h0inputs ?_) ⟨by omega, by omega⟩).mono ?_
  · (repeat (first | exact Below.refl _ _ | refine ba ?_ | refine bdr ?_ | refine bs ?_ (by simp)))
  rintro e w1 ⟨rfl, hb1⟩
  have D1 : Below w.heap.size w w1 := bt (by (repeat (first | exact Below.refl _ _ | refine ba ?_ | refine bdr ?_ | refine bs ?_ (by simp)))) hb1
  have B1 : Below w.heap.size w w1 := D1
  have b1c0_1 : w1.cell? ⟨w.heap.size, 0, none⟩ = some (.int .i64 x0.rel) := cell_below (b1c0_0) hb1
  have b1c1_1 : w1.cell? ⟨w.heap.size, 1, none⟩ = some ((.slice p0inputs x0.inputs.length q0inputs)) := cell_below (b1c1_0) hb1
  have b1c2_1 : w1.cell? ⟨w.heap.size, 2, none⟩ = some (.int .i64 x0.limit) := cell_below (b1c2_0) hb1
  have b1c3_1 : w1.cell? ⟨w.heap.size, 3, none⟩ = some (.int .i64 x0.cost) := cell_below (b1c3_0) hb1
  have b1c4_1 : w1.cell? ⟨w.heap.size, 4, none⟩ = some (.int .i64 x0.quota) := cell_below (b1c4_0) hb1
  clear b1c0_0 b1c1_0 b1c2_0 b1c3_0 b1c4_0
  rcases left_cases (bulkMethod x0) (1048576) (by omega) with ⟨t0, t1⟩ | ⟨t0, t1⟩
  case inl =>
    have T1 := Lib.hid t1; clear t1
    go_wp2
    go_ret
    exact ⟨rfl, B1⟩
  have T1 := Lib.hid t1; clear t1
  obtain ⟨qx0, ex01, ex02⟩ := left_bd t0 (by omega) (by omega)
  clear t0
  have nx0inputs : x0.inputs.length ≤ 1048576 := by have h9 := qx0; unfold bulkMethod at h9; omega
  go_wp2_with fail
  refine (toMethod_any x0 _ _ (intsV.below' h0inputs ?_) nx0inputs).mono ?_
  · (repeat (first | exact B1 | refine ba ?_ | refine bdr ?_ | refine bs ?_ (by simp)))
  rintro e w2 ⟨d1vinputs, d1finputs, rfl, d1hinputs_2, d1fr, hb2⟩
  obtain ⟨d1ainputs, d1cinputs, rfl⟩ := slR.form d1hinputs_2
  have D2 : Below w1.heap.size w1 w2 := bt (by (repeat (first | exact Below.refl _ _ | refine ba ?_ | refine bdr ?_ | refine bs ?_ (by simp)))) hb2
  have B2 : Below w.heap.size w w2 := bt B1 D2
  have b1c0_2 : w2.cell? ⟨w.heap.size, 0, none⟩ = some (.int .i64 x0.rel) := cell_below b1c0_1 D2
  have b1c1_2 : w2.cell? ⟨w.heap.size, 1, none⟩ = some ((.slice p0inputs x0.inputs.length q0inputs)) := cell_below b1c1_1 D2
  have b1c2_2 : w2.cell? ⟨w.heap.size, 2, none⟩ = some (.int .i64 x0.limit) := cell_below b1c2_1 D2
  have b1c3_2 : w2.cell? ⟨w.heap.size, 3, none⟩ = some (.int .i64 x0.cost) := cell_below b1c3_1 D2
  have b1c4_2 : w2.cell? ⟨w.heap.size, 4, none⟩ = some (.int .i64 x0.quota) := cell_below b1c4_1 D2
  clear b1c0_1 b1c1_1 b1c2_1 b1c3_1 b1c4_1
  go_wp2_with fail
  refine (specFormatMethod_any x0 _ _ _ (ints.below' d1hinputs_2 ?_) nx0inputs).mono ?_
  · (repeat (first | exact Below.refl _ _ | refine ba ?_ | refine bdr ?_ | refine bs ?_ (by simp)))
  rintro e w3 ⟨rfl, hb3⟩
  have D3 : Below w2.heap.size w2 w3 := bt (by (repeat (first | exact Below.refl _ _ | refine ba ?_ | refine bdr ?_ | refine bs ?_ (by simp)))) hb3
  have B3 : Below w.heap.size w w3 := bt B2 D3
  have b1c0_3 : w3.cell? ⟨w.heap.size, 0, none⟩ = some (.int .i64 x0.rel) := cell_below b1c0_2 D3
  have b1c1_3 : w3.cell? ⟨w.heap.size, 1, none⟩ = some ((.slice p0inputs x0.inputs.length q0inputs)) := cell_below b1c1_2 D3
  have b1c2_3 : w3.cell? ⟨w.heap.size, 2, none⟩ = some (.int .i64 x0.limit) := cell_below b1c2_2 D3
  have b1c3_3 : w3.cell? ⟨w.heap.size, 3, none⟩ = some (.int .i64 x0.cost) := cell_below b1c3_2 D3
  have b1c4_3 : w3.cell? ⟨w.heap.size, 4, none⟩ = some (.int .i64 x0.quota) := cell_below b1c4_2 D3
  clear b1c0_2 b1c1_2 b1c2_2 b1c3_2 b1c4_2 d1hinputs_2
  go_wp2_with fail
  refine (toMethod_any x0 _ _ (intsV.below' h0inputs ?_) nx0inputs).mono ?_
  · (repeat (first | exact B3 | refine ba ?_ | refine bdr ?_ | refine bs ?_ (by simp)))
  rintro e w4 ⟨d2vinputs, d2finputs, rfl, d2hinputs_4, d2fr, hb4⟩
  obtain ⟨d2ainputs, d2cinputs, rfl⟩ := slR.form d2hinputs_4
  have D4 : Below w3.heap.size w3 w4 := bt (by (repeat (first | exact Below.refl _ _ | refine ba ?_ | refine bdr ?_ | refine bs ?_ (by simp)))) hb4
  have B4 : Below w.heap.size w w4 := bt B3 D4
  have b1c0_4 : w4.cell? ⟨w.heap.size, 0, none⟩ = some (.int .i64 x0.rel) := cell_below b1c0_3 D4
  have b1c1_4 : w4.cell? ⟨w.heap.size, 1, none⟩ = some ((.slice p0inputs x0.inputs.length q0inputs)) := cell_below b1c1_3 D4
  have b1c2_4 : w4.cell? ⟨w.heap.size, 2, none⟩ = some (.int .i64 x0.limit) := cell_below b1c2_3 D4
  have b1c3_4 : w4.cell? ⟨w.heap.size, 3, none⟩ = some (.int .i64 x0.cost) := cell_below b1c3_3 D4
  have b1c4_4 : w4.cell? ⟨w.heap.size, 4, none⟩ = some (.int .i64 x0.quota) := cell_below b1c4_3 D4
  clear b1c0_3 b1c1_3 b1c2_3 b1c3_3 b1c4_3
  have b1c0_4n := fun o => cell_al b1c0_4 o
  have b1c1_4n := fun o => cell_al b1c1_4 o
  have b1c2_4n := fun o => cell_al b1c2_4 o
  have b1c3_4n := fun o => cell_al b1c3_4 o
  have b1c4_4n := fun o => cell_al b1c4_4 o
  go_wp2_with fail
  refine (implFormatMethod_any x0 _ _ _ (ints.below' d2hinputs_4 ?_) nx0inputs (Tab.on hT (by (repeat (first | exact B4 | refine ba ?_ | refine bdr ?_ | refine bs ?_ (by simp)))))).mono ?_
  · (repeat (first | exact Below.refl _ _ | refine ba ?_ | refine bdr ?_ | refine bs ?_ (by simp)))
  rintro e w5 ⟨rfl, hb5⟩
  have D5 : Below w4.heap.size w4 w5 := bt (by (repeat (first | exact Below.refl _ _ | refine ba ?_ | refine bdr ?_ | refine bs ?_ (by simp)))) hb5
  have B5 : Below w.heap.size w w5 := bt B4 D5
  have b1c0_5 : w5.cell? ⟨w.heap.size, 0, none⟩ = some (.int .i64 x0.rel) := cell_below b1c0_4 D5
  have b1c1_5 : w5.cell? ⟨w.heap.size, 1, none⟩ = some ((.slice p0inputs x0.inputs.length q0inputs)) := cell_below b1c1_4 D5
  have b1c2_5 : w5.cell? ⟨w.heap.size, 2, none⟩ = some (.int .i64 x0.limit) := cell_below b1c2_4 D5
  have b1c3_5 : w5.cell? ⟨w.heap.size, 3, none⟩ = some (.int .i64 x0.cost) := cell_below b1c3_4 D5
  have b1c4_5 : w5.cell? ⟨w.heap.size, 4, none⟩ = some (.int .i64 x0.quota) := cell_below b1c4_4 D5
  have b5c0_5 : w5.cell? ⟨w4.heap.size, 0, none⟩ = some (.int .i64 x0.rel) := cell_below (cell_new _ _ _ 0 _ rfl) hb5
  have b5c1_5 : w5.cell? ⟨w4.heap.size, 1, none⟩ = some ((.slice d2ainputs x0.inputs.length d2cinputs)) := cell_below (cell_new _ _ _ 1 _ rfl) hb5
  have b5c2_5 : w5.cell? ⟨w4.heap.size, 2, none⟩ = some (.int .i64 x0.limit) := cell_below (cell_new _ _ _ 2 _ rfl) hb5
  have b5c3_5 : w5.cell? ⟨w4.heap.size, 3, none⟩ = some (.int .i64 x0.cost) := cell_below (cell_new _ _ _ 3 _ rfl) hb5
  have b5c4_5 : w5.cell? ⟨w4.heap.size, 4, none⟩ = some (.int .i64 x0.quota) := cell_below (cell_new _ _ _ 4 _ rfl) hb5
  have d2hinputs_5 := d2hinputs_4.below' D5
  clear b1c0_4 b1c1_4 b1c2_4 b1c3_4 b1c4_4 d2hinputs_4 b1c0_4n b1c1_4n b1c2_4n b1c3_4n b1c4_4n
  go_wp2_with fail
  go_region_held3 (fun w' => w'.cell? ⟨w4.heap.size, 0, none⟩ = some (.int .i64 x0.rel) ∧ w'.cell? ⟨w4.heap.size, 1, none⟩ = some ((.slice d2ainputs x0.inputs.length d2cinputs)) ∧ w'.cell? ⟨w4.heap.size, 2, none⟩ = some (.int .i64 x0.limit) ∧ w'.cell? ⟨w4.heap.size, 3, none⟩ = some (.int .i64 x0.cost) ∧ w'.cell? ⟨w4.heap.size, 4, none⟩ = some (.int .i64 x0.quota) ∧ w'.cell? ⟨w.heap.size, 0, none⟩ = some (.int .i64 x0.rel) ∧ w'.cell? ⟨w.heap.size, 1, none⟩ = some ((.slice p0inputs x0.inputs.length q0inputs)) ∧ w'.cell? ⟨w.heap.size, 2, none⟩ = some (.int .i64 x0.limit) ∧ w'.cell? ⟨w.heap.size, 3, none⟩ = some (.int .i64 x0.cost) ∧ w'.cell? ⟨w.heap.size, 4, none⟩ = some (.int .i64 x0.quota)) (first | exact ⟨b5c0_5, b5c1_5, b5c2_5, b5c3_5, b5c4_5, b1c0_5, b1c1_5, b1c2_5, b1c3_5, b1c4_5⟩ | exact ⟨b5c0_6, b5c1_6, b5c2_6, b5c3_6, b5c4_6, b1c0_6, b1c1_6, b1c2_6, b1c3_6, b1c4_6⟩ | exact ⟨b5c0_7, b5c1_7, b5c2_7, b5c3_7, b5c4_7, b1c0_7, b1c1_7, b1c2_7, b1c3_7, b1c4_7⟩)
    (first
      | (go_at_call 43
         with_reducible refine (toMethod_any x0 _ _ (intsV.below' h0inputs ?_) nx0inputs).mono ?_
         · (repeat (first | exact B5 | refine ba ?_ | refine bdr ?_ | refine bs ?_ (by simp)))
         rintro e w6 ⟨d3vinputs, d3finputs, rfl, d3hinputs_6, d3fr, hb6⟩
         obtain ⟨d3ainputs, d3cinputs, rfl⟩ := slR.form d3hinputs_6
         have D6 : Below w5.heap.size w5 w6 := bt (by (repeat (first | exact Below.refl _ _ | refine ba ?_ | refine bdr ?_ | refine bs ?_ (by simp)))) hb6
         have B6 : Below w.heap.size w w6 := bt B5 D6
         have b1c0_6 : w6.cell? ⟨w.heap.size, 0, none⟩ = some (.int .i64 x0.rel) := cell_below b1c0_5 D6
         have b1c1_6 : w6.cell? ⟨w.heap.size, 1, none⟩ = some ((.slice p0inputs x0.inputs.length q0inputs)) := cell_below b1c1_5 D6
         have b1c2_6 : w6.cell? ⟨w.heap.size, 2, none⟩ = some (.int .i64 x0.limit) := cell_below b1c2_5 D6
         have b1c3_6 : w6.cell? ⟨w.heap.size, 3, none⟩ = some (.int .i64 x0.cost) := cell_below b1c3_5 D6
         have b1c4_6 : w6.cell? ⟨w.heap.size, 4, none⟩ = some (.int .i64 x0.quota) := cell_below b1c4_5 D6
         have b5c0_6 : w6.cell? ⟨w4.heap.size, 0, none⟩ = some (.int .i64 x0.rel) := cell_below b5c0_5 D6
         have b5c1_6 : w6.cell? ⟨w4.heap.size, 1, none⟩ = some ((.slice d2ainputs x0.inputs.length d2cinputs)) := cell_below b5c1_5 D6
         have b5c2_6 : w6.cell? ⟨w4.heap.size, 2, none⟩ = some (.int .i64 x0.limit) := cell_below b5c2_5 D6
         have b5c3_6 : w6.cell? ⟨w4.heap.size, 3, none⟩ = some (.int .i64 x0.cost) := cell_below b5c3_5 D6
         have b5c4_6 : w6.cell? ⟨w4.heap.size, 4, none⟩ = some (.int .i64 x0.quota) := cell_below b5c4_5 D6
         have d2hinputs_6 := d2hinputs_5.below' D6)
      | (go_at_call 45
         with_reducible refine (eqMethod_any x0 x0 _ _ _ _ _ (ints.below' d2hinputs_6 ?_) (ints.below' d3hinputs_6 ?_)).mono ?_
         · (repeat (first | exact Below.refl _ _ | refine ba ?_ | refine bdr ?_ | refine bs ?_ (by simp)))
         · (repeat (first | exact Below.refl _ _ | refine ba ?_ | refine bdr ?_ | refine bs ?_ (by simp)))
         rintro e w7 ⟨rfl, hb7⟩
         have D7 : Below w6.heap.size w6 w7 := bt (by (repeat (first | exact Below.refl _ _ | refine ba ?_ | refine bdr ?_ | refine bs ?_ (by simp)))) hb7
         have B7 : Below w.heap.size w w7 := bt B6 D7
         have b1c0_7 : w7.cell? ⟨w.heap.size, 0, none⟩ = some (.int .i64 x0.rel) := cell_below b1c0_6 D7
         have b1c1_7 : w7.cell? ⟨w.heap.size, 1, none⟩ = some ((.slice p0inputs x0.inputs.length q0inputs)) := cell_below b1c1_6 D7
         have b1c2_7 : w7.cell? ⟨w.heap.size, 2, none⟩ = some (.int .i64 x0.limit) := cell_below b1c2_6 D7
         have b1c3_7 : w7.cell? ⟨w.heap.size, 3, none⟩ = some (.int .i64 x0.cost) := cell_below b1c3_6 D7
         have b1c4_7 : w7.cell? ⟨w.heap.size, 4, none⟩ = some (.int .i64 x0.quota) := cell_below b1c4_6 D7
         have b5c0_7 : w7.cell? ⟨w4.heap.size, 0, none⟩ = some (.int .i64 x0.rel) := cell_below b5c0_6 D7
         have b5c1_7 : w7.cell? ⟨w4.heap.size, 1, none⟩ = some ((.slice d2ainputs x0.inputs.length d2cinputs)) := cell_below b5c1_6 D7
         have b5c2_7 : w7.cell? ⟨w4.heap.size, 2, none⟩ = some (.int .i64 x0.limit) := cell_below b5c2_6 D7
         have b5c3_7 : w7.cell? ⟨w4.heap.size, 3, none⟩ = some (.int .i64 x0.cost) := cell_below b5c3_6 D7
         have b5c4_7 : w7.cell? ⟨w4.heap.size, 4, none⟩ = some (.int .i64 x0.quota) := cell_below b5c4_6 D7))
  clear b1c0_5 b1c1_5 b1c2_5 b1c3_5 b1c4_5 b5c0_5 b5c1_5 b5c2_5 b5c3_5 b5c4_5 d2hinputs_5 b1c0_6 b1c1_6 b1c2_6 b1c3_6 b1c4_6 b5c0_6 b5c1_6 b5c2_6 b5c3_6 b5c4_6 d2hinputs_6 d3hinputs_6
  go_wp2
  go_ret
  exact ⟨rfl, B7⟩
end Go.Proofs.YthpgmhnlblobkaaDoor
