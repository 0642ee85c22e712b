/- The walk of the law FnExactFormatAccess: it returns true, whatever the input. -/
import Derived.Test.YthpgmhnlblobkaaDoorFmtRec
import Derived.Test.YthpgmhnlblobkaaDoorHAcc
import Derived.Test.YthpgmhnlblobkaaDoorFacts0
namespace Go.Proofs.YthpgmhnlblobkaaDoor
open Go.RowKit
set_option linter.unusedVariables false
set_option linter.unusedSimpArgs false
set_option maxRecDepth 100000 in
set_option maxHeartbeats 8000000 in
theorem fnExactFormatAccess_walk (cs0 : List Value) (x0 : AccD) (w : World) (g0 : accW w cs0 x0) (hT : Lib.TabBelow Tryd.prog w.heap.size w "internal/strconv.uint64pow10" .u64 Lib.pow10Tab) :
    Calls Tryd.prog 6 #[.agg cs0.toArray] w fun e w' => e = .returned (.bool true) ∧ Below w.heap.size w w' := by
  obtain ⟨v0vals, rfl, i0meth, h0vals⟩ := g0
  obtain ⟨p0vals, q0vals, rfl⟩ := slW.form h0vals
  have b1c0_0 : (w.alloc (.cells #[.int .i64 x0.meth, (.slice p0vals x0.vals.length q0vals)] 39)).cell? ⟨w.heap.size, 0, none⟩ = some (.int .i64 x0.meth) := cell_new w _ _ 0 _ rfl
  have b1c1_0 : (w.alloc (.cells #[.int .i64 x0.meth, (.slice p0vals x0.vals.length q0vals)] 39)).cell? ⟨w.heap.size, 1, none⟩ = some ((.slice p0vals x0.vals.length q0vals)) := cell_new w _ _ 1 _ rfl
  have rd0 : decide (x0 = x0) = true := by simp
  go_enter Tryd.func6, Tryd.ntmps6
  go_wp2_with fail
  refine (szAccess_any x0 _ (1048576) _ (intsV.below' h0vals ?_) ⟨by omega, by omega⟩).mono ?_
  · (repeat (first | exact Below.refl _ _ | refine ba ?_ | refine bdr ?_ | refine bs ?_ (by simp)))
  rintro e w1 ⟨rfl, hb1⟩
  have D1 : Below w.heap.size w w1 := bt (by (repeat (first | exact Below.refl _ _ | refine ba ?_ | refine bdr ?_ | refine bs ?_ (by simp)))) hb1
  have B1 : Below w.heap.size w w1 := D1
  have b1c0_1 : w1.cell? ⟨w.heap.size, 0, none⟩ = some (.int .i64 x0.meth) := cell_below (b1c0_0) hb1
  have b1c1_1 : w1.cell? ⟨w.heap.size, 1, none⟩ = some ((.slice p0vals x0.vals.length q0vals)) := cell_below (b1c1_0) hb1
  clear b1c0_0 b1c1_0
  rcases left_cases (bulkAccess x0) (1048576) (by omega) with ⟨t0, t1⟩ | ⟨t0, t1⟩
  case inl =>
    have T1 := Lib.hid t1; clear t1
    go_wp2
    go_ret
    exact ⟨rfl, B1⟩
  have T1 := Lib.hid t1; clear t1
  obtain ⟨qx0, ex01, ex02⟩ := left_bd t0 (by omega) (by omega)
  clear t0
  have nx0vals : x0.vals.length ≤ 1048576 := by have h9 := qx0; unfold bulkAccess at h9; omega
  go_wp2_with fail
  refine (toAccess_any x0 _ _ (intsV.below' h0vals ?_) nx0vals).mono ?_
  · (repeat (first | exact B1 | refine ba ?_ | refine bdr ?_ | refine bs ?_ (by simp)))
  rintro e w2 ⟨d1vvals, d1fvals, rfl, d1hvals_2, d1fr, hb2⟩
  obtain ⟨d1avals, d1cvals, rfl⟩ := slR.form d1hvals_2
  have D2 : Below w1.heap.size w1 w2 := bt (by (repeat (first | exact Below.refl _ _ | refine ba ?_ | refine bdr ?_ | refine bs ?_ (by simp)))) hb2
  have B2 : Below w.heap.size w w2 := bt B1 D2
  have b1c0_2 : w2.cell? ⟨w.heap.size, 0, none⟩ = some (.int .i64 x0.meth) := cell_below b1c0_1 D2
  have b1c1_2 : w2.cell? ⟨w.heap.size, 1, none⟩ = some ((.slice p0vals x0.vals.length q0vals)) := cell_below b1c1_1 D2
  clear b1c0_1 b1c1_1
  go_wp2_with fail
  refine (specFormatAccess_any x0 _ _ _ (ints.below' d1hvals_2 ?_)).mono ?_
  · (repeat (first | exact Below.refl _ _ | refine ba ?_ | refine bdr ?_ | refine bs ?_ (by simp)))
  rintro e w3 ⟨rfl, hb3⟩
  have D3 : Below w2.heap.size w2 w3 := bt (by (repeat (first | exact Below.refl _ _ | refine ba ?_ | refine bdr ?_ | refine bs ?_ (by simp)))) hb3
  have B3 : Below w.heap.size w w3 := bt B2 D3
  have b1c0_3 : w3.cell? ⟨w.heap.size, 0, none⟩ = some (.int .i64 x0.meth) := cell_below b1c0_2 D3
  have b1c1_3 : w3.cell? ⟨w.heap.size, 1, none⟩ = some ((.slice p0vals x0.vals.length q0vals)) := cell_below b1c1_2 D3
  clear b1c0_2 b1c1_2 d1hvals_2
  go_wp2_with fail
  refine (toAccess_any x0 _ _ (intsV.below' h0vals ?_) nx0vals).mono ?_
  · (repeat (first | exact B3 | refine ba ?_ | refine bdr ?_ | refine bs ?_ (by simp)))
  rintro e w4 ⟨d2vvals, d2fvals, rfl, d2hvals_4, d2fr, hb4⟩
  obtain ⟨d2avals, d2cvals, rfl⟩ := slR.form d2hvals_4
  have D4 : Below w3.heap.size w3 w4 := bt (by (repeat (first | exact Below.refl _ _ | refine ba ?_ | refine bdr ?_ | refine bs ?_ (by simp)))) hb4
  have B4 : Below w.heap.size w w4 := bt B3 D4
  have b1c0_4 : w4.cell? ⟨w.heap.size, 0, none⟩ = some (.int .i64 x0.meth) := cell_below b1c0_3 D4
  have b1c1_4 : w4.cell? ⟨w.heap.size, 1, none⟩ = some ((.slice p0vals x0.vals.length q0vals)) := cell_below b1c1_3 D4
  clear b1c0_3 b1c1_3
  have b1c0_4n := fun o => cell_al b1c0_4 o
  have b1c1_4n := fun o => cell_al b1c1_4 o
  go_wp2_with fail
  refine (implFormatAccess_any x0 _ _ _ (ints.below' d2hvals_4 ?_) (Tab.on hT (by (repeat (first | exact B4 | refine ba ?_ | refine bdr ?_ | refine bs ?_ (by simp)))))).mono ?_
  · (repeat (first | exact Below.refl _ _ | refine ba ?_ | refine bdr ?_ | refine bs ?_ (by simp)))
  rintro e w5 ⟨rfl, hb5⟩
  have D5 : Below w4.heap.size w4 w5 := bt (by (repeat (first | exact Below.refl _ _ | refine ba ?_ | refine bdr ?_ | refine bs ?_ (by simp)))) hb5
  have B5 : Below w.heap.size w w5 := bt B4 D5
  have b1c0_5 : w5.cell? ⟨w.heap.size, 0, none⟩ = some (.int .i64 x0.meth) := cell_below b1c0_4 D5
  have b1c1_5 : w5.cell? ⟨w.heap.size, 1, none⟩ = some ((.slice p0vals x0.vals.length q0vals)) := cell_below b1c1_4 D5
  have b5c0_5 : w5.cell? ⟨w4.heap.size, 0, none⟩ = some (.int .i64 x0.meth) := cell_below (cell_new _ _ _ 0 _ rfl) hb5
  have b5c1_5 : w5.cell? ⟨w4.heap.size, 1, none⟩ = some ((.slice d2avals x0.vals.length d2cvals)) := cell_below (cell_new _ _ _ 1 _ rfl) hb5
  have d2hvals_5 := d2hvals_4.below' D5
  clear b1c0_4 b1c1_4 d2hvals_4 b1c0_4n b1c1_4n
  go_wp2_with fail
  go_region_held3 (fun w' => w'.cell? ⟨w4.heap.size, 0, none⟩ = some (.int .i64 x0.meth) ∧ w'.cell? ⟨w4.heap.size, 1, none⟩ = some ((.slice d2avals x0.vals.length d2cvals)) ∧ w'.cell? ⟨w.heap.size, 0, none⟩ = some (.int .i64 x0.meth) ∧ w'.cell? ⟨w.heap.size, 1, none⟩ = some ((.slice p0vals x0.vals.length q0vals))) (first | exact ⟨b5c0_5, b5c1_5, b1c0_5, b1c1_5⟩ | exact ⟨b5c0_6, b5c1_6, b1c0_6, b1c1_6⟩ | exact ⟨b5c0_7, b5c1_7, b1c0_7, b1c1_7⟩)
    (first
      | (go_at_call 28
         with_reducible refine (toAccess_any x0 _ _ (intsV.below' h0vals ?_) nx0vals).mono ?_
         · (repeat (first | exact B5 | refine ba ?_ | refine bdr ?_ | refine bs ?_ (by simp)))
         rintro e w6 ⟨d3vvals, d3fvals, rfl, d3hvals_6, d3fr, hb6⟩
         obtain ⟨d3avals, d3cvals, rfl⟩ := slR.form d3hvals_6
         have D6 : Below w5.heap.size w5 w6 := bt (by (repeat (first | exact Below.refl _ _ | refine ba ?_ | refine bdr ?_ | refine bs ?_ (by simp)))) hb6
         have B6 : Below w.heap.size w w6 := bt B5 D6
         have b1c0_6 : w6.cell? ⟨w.heap.size, 0, none⟩ = some (.int .i64 x0.meth) := cell_below b1c0_5 D6
         have b1c1_6 : w6.cell? ⟨w.heap.size, 1, none⟩ = some ((.slice p0vals x0.vals.length q0vals)) := cell_below b1c1_5 D6
         have b5c0_6 : w6.cell? ⟨w4.heap.size, 0, none⟩ = some (.int .i64 x0.meth) := cell_below b5c0_5 D6
         have b5c1_6 : w6.cell? ⟨w4.heap.size, 1, none⟩ = some ((.slice d2avals x0.vals.length d2cvals)) := cell_below b5c1_5 D6
         have d2hvals_6 := d2hvals_5.below' D6)
      | (go_at_call 30
         with_reducible refine (eqAccess_any x0 x0 _ _ _ _ _ (ints.below' d2hvals_6 ?_) (ints.below' d3hvals_6 ?_)).mono ?_
         · (repeat (first | exact Below.refl _ _ | refine ba ?_ | refine bdr ?_ | refine bs ?_ (by simp)))
         · (repeat (first | exact Below.refl _ _ | refine ba ?_ | refine bdr ?_ | refine bs ?_ (by simp)))
         rintro e w7 ⟨rfl, hb7⟩
         have D7 : Below w6.heap.size w6 w7 := bt (by (repeat (first | exact Below.refl _ _ | refine ba ?_ | refine bdr ?_ | refine bs ?_ (by simp)))) hb7
         have B7 : Below w.heap.size w w7 := bt B6 D7
         have b1c0_7 : w7.cell? ⟨w.heap.size, 0, none⟩ = some (.int .i64 x0.meth) := cell_below b1c0_6 D7
         have b1c1_7 : w7.cell? ⟨w.heap.size, 1, none⟩ = some ((.slice p0vals x0.vals.length q0vals)) := cell_below b1c1_6 D7
         have b5c0_7 : w7.cell? ⟨w4.heap.size, 0, none⟩ = some (.int .i64 x0.meth) := cell_below b5c0_6 D7
         have b5c1_7 : w7.cell? ⟨w4.heap.size, 1, none⟩ = some ((.slice d2avals x0.vals.length d2cvals)) := cell_below b5c1_6 D7))
  clear b1c0_5 b1c1_5 b5c0_5 b5c1_5 d2hvals_5 b1c0_6 b1c1_6 b5c0_6 b5c1_6 d2hvals_6 d3hvals_6
  go_wp2
  go_ret
  exact ⟨rfl, B7⟩
end Go.Proofs.YthpgmhnlblobkaaDoor
