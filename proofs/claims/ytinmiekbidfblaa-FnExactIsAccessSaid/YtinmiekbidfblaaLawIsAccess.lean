/- The walk of the law FnExactIsAccess: it returns true, whatever the input. -/
import Derived.Test.YtinmiekbidfblaaIsAccess
import Derived.Test.YtinmiekbidfblaaFacts0
namespace Go.Proofs.Ytinmiekbidfblaa
open Go.RowKit
set_option linter.unusedVariables false
set_option linter.unusedSimpArgs false
set_option maxRecDepth 100000 in
set_option maxHeartbeats 8000000 in
theorem fnExactIsAccess_walk (v0 : Value) (l0 : List Int) (v1 : Value) (l1 : List MethD) (cs2 : List Value) (x2 : AccD) (w : World) (g0 : intsV w v0 l0) (g1 : methsV w v1 l1) (g2 : accW w cs2 x2)  :
    Calls Try.prog 3 #[v0, v1, .agg cs2.toArray] w fun e w' => e = .returned (.bool true) ∧ Below w.heap.size w w' := by
  obtain ⟨p0, q0, rfl⟩ := slW.form g0
  obtain ⟨p1, q1, rfl⟩ := slW.form g1
  obtain ⟨v2vals, rfl, i2meth, h2vals⟩ := g2
  obtain ⟨p2vals, q2vals, rfl⟩ := slW.form h2vals
  have b5c0_0 : (w.alloc (.cells #[.int .i64 x2.meth, (.slice p2vals x2.vals.length q2vals)] 25)).cell? ⟨w.heap.size, 0, none⟩ = some (.int .i64 x2.meth) := cell_new w _ _ 0 _ rfl
  have b5c1_0 : (w.alloc (.cells #[.int .i64 x2.meth, (.slice p2vals x2.vals.length q2vals)] 25)).cell? ⟨w.heap.size, 1, none⟩ = some ((.slice p2vals x2.vals.length q2vals)) := cell_new w _ _ 1 _ rfl
  by_cases n0 : l0.length ≤ 1048576
  case neg =>
    go_enter Try.func3, Try.ntmps3
    go_wp2
    go_ret
    exact ⟨rfl, by (repeat (first | exact Below.refl _ _ | refine ba ?_ | refine bdr ?_ | refine bs ?_ (by simp)))⟩
  have rr : (accB l0 l1 x2 != accB l0 l1 x2) = false := by simp
  have rd0 : decide (l0 = l0) = true := by simp
  have rd1 : decide (l1 = l1) = true := by simp
  have rd2 : decide (x2 = x2) = true := by simp
  go_enter Try.func3, Try.ntmps3
  go_wp2_with fail
  refine (szMethodS_any _ l1 (1048576) _ (methsV.below' g1 ?_) ⟨by omega, by omega⟩).mono ?_
  · (repeat (first | exact Below.refl _ _ | refine ba ?_ | refine bdr ?_ | refine bs ?_ (by simp)))
  rintro e w1 ⟨rfl, hb1⟩
  have D1 : Below w.heap.size w w1 := bt (by (repeat (first | exact Below.refl _ _ | refine ba ?_ | refine bdr ?_ | refine bs ?_ (by simp)))) hb1
  have B1 : Below w.heap.size w w1 := D1
  have b5c0_1 : w1.cell? ⟨w.heap.size, 0, none⟩ = some (.int .i64 x2.meth) := cell_below (b5c0_0) hb1
  have b5c1_1 : w1.cell? ⟨w.heap.size, 1, none⟩ = some ((.slice p2vals x2.vals.length q2vals)) := cell_below (b5c1_0) hb1
  clear b5c0_0 b5c1_0
  rcases left_cases (bulkMethodS l1) (1048576) (by omega) with ⟨t0, t1⟩ | ⟨t0, t1⟩
  case inl =>
    have T1 := Lib.hid t1; clear t1
    go_wp2
    go_ret
    exact ⟨rfl, B1⟩
  have T1 := Lib.hid t1; clear t1
  obtain ⟨ql1, el11, el12⟩ := left_bd t0 (by omega) (by omega)
  clear t0
  have nl1 : l1.length ≤ 1048576 := by have h9 := ql1; unfold bulkMethodS at h9; omega
  have nl1i : ∀ y ∈ l1, y.inputs.length ≤ 1048576 := fun y hy => by have h9 := ql1; unfold bulkMethodS at h9; have h8 := sum_ge_mem (f := fun x => bulkMethod x) hy; unfold bulkMethod at h8 h9; omega
  go_wp2_with fail
  refine (szAccess_any x2 _ (left (bulkMethodS l1) (1048576)) _ (intsV.below' h2vals ?_) ⟨by omega, by omega⟩).mono ?_
  · (repeat (first | exact B1 | refine ba ?_ | refine bdr ?_ | refine bs ?_ (by simp)))
  rintro e w2 ⟨rfl, hb2⟩
  have D2 : Below w1.heap.size w1 w2 := bt (by (repeat (first | exact Below.refl _ _ | refine ba ?_ | refine bdr ?_ | refine bs ?_ (by simp)))) hb2
  have B2 : Below w.heap.size w w2 := bt B1 D2
  have b5c0_2 : w2.cell? ⟨w.heap.size, 0, none⟩ = some (.int .i64 x2.meth) := cell_below b5c0_1 D2
  have b5c1_2 : w2.cell? ⟨w.heap.size, 1, none⟩ = some ((.slice p2vals x2.vals.length q2vals)) := cell_below b5c1_1 D2
  clear b5c0_1 b5c1_1
  rcases left_cases (bulkAccess x2) (left (bulkMethodS l1) (1048576)) (by omega) with ⟨t0, t1⟩ | ⟨t0, t1⟩
  case inl =>
    have T1 := Lib.hid t1; clear t1
    go_wp2
    go_ret
    exact ⟨rfl, B2⟩
  have T2 := Lib.hid t1; clear t1
  obtain ⟨qx2, ex21, ex22⟩ := left_bd t0 (by omega) (by omega)
  clear t0
  have nx2vals : x2.vals.length ≤ 1048576 := by have h9 := qx2; unfold bulkAccess at h9; omega
  go_wp2_with fail
  go_region_held3 (fun w' => w'.cell? ⟨w.heap.size, 0, none⟩ = some (.int .i64 x2.meth) ∧ w'.cell? ⟨w.heap.size, 1, none⟩ = some ((.slice p2vals x2.vals.length q2vals))) (first | exact ⟨b5c0_2, b5c1_2⟩ | exact ⟨b5c0_3, b5c1_3⟩ | exact ⟨b5c0_4, b5c1_4⟩ | exact ⟨b5c0_5, b5c1_5⟩ | exact ⟨b5c0_6, b5c1_6⟩)
    (first
      | (go_at_call 18
         with_reducible refine (toIntS_any _ l0 _ (intsV.below' g0 ?_) n0).mono ?_
         · (repeat (first | exact B2 | refine ba ?_ | refine bdr ?_ | refine bs ?_ (by simp)))
         rintro e w3 ⟨d1v, d1f, rfl, d1h_3, d1fr, hb3⟩
         obtain ⟨d1a, d1c, rfl⟩ := slR.form d1h_3
         have D3 : Below w2.heap.size w2 w3 := bt (by (repeat (first | exact Below.refl _ _ | refine ba ?_ | refine bdr ?_ | refine bs ?_ (by simp)))) hb3
         have B3 : Below w.heap.size w w3 := bt B2 D3
         have b5c0_3 : w3.cell? ⟨w.heap.size, 0, none⟩ = some (.int .i64 x2.meth) := cell_below b5c0_2 D3
         have b5c1_3 : w3.cell? ⟨w.heap.size, 1, none⟩ = some ((.slice p2vals x2.vals.length q2vals)) := cell_below b5c1_2 D3)
      | (go_at_call 19
         with_reducible refine (toMethodS_any _ l1 _ (methsV.below' g1 ?_) nl1 nl1i).mono ?_
         · (repeat (first | exact B3 | refine ba ?_ | refine bdr ?_ | refine bs ?_ (by simp)))
         rintro e w4 ⟨d2v, d2f, rfl, d2h_4, d2fr, hb4⟩
         obtain ⟨d2a, d2c, rfl⟩ := slR.form d2h_4
         have D4 : Below w3.heap.size w3 w4 := bt (by (repeat (first | exact Below.refl _ _ | refine ba ?_ | refine bdr ?_ | refine bs ?_ (by simp)))) hb4
         have B4 : Below w.heap.size w w4 := bt B3 D4
         have b5c0_4 : w4.cell? ⟨w.heap.size, 0, none⟩ = some (.int .i64 x2.meth) := cell_below b5c0_3 D4
         have b5c1_4 : w4.cell? ⟨w.heap.size, 1, none⟩ = some ((.slice p2vals x2.vals.length q2vals)) := cell_below b5c1_3 D4
         have d1h_4 := d1h_3.below' D4)
      | (go_at_call 20
         with_reducible refine (toAccess_any x2 _ _ (intsV.below' h2vals ?_) nx2vals).mono ?_
         · (repeat (first | exact B4 | refine ba ?_ | refine bdr ?_ | refine bs ?_ (by simp)))
         rintro e w5 ⟨d3vvals, d3fvals, rfl, d3hvals_5, d3fr, hb5⟩
         obtain ⟨d3avals, d3cvals, rfl⟩ := slR.form d3hvals_5
         have D5 : Below w4.heap.size w4 w5 := bt (by (repeat (first | exact Below.refl _ _ | refine ba ?_ | refine bdr ?_ | refine bs ?_ (by simp)))) hb5
         have B5 : Below w.heap.size w w5 := bt B4 D5
         have b5c0_5 : w5.cell? ⟨w.heap.size, 0, none⟩ = some (.int .i64 x2.meth) := cell_below b5c0_4 D5
         have b5c1_5 : w5.cell? ⟨w.heap.size, 1, none⟩ = some ((.slice p2vals x2.vals.length q2vals)) := cell_below b5c1_4 D5
         have d1h_5 := d1h_4.below' D5
         have d2h_5 := d2h_4.below' D5)
      | (go_at_call 17
         with_reducible refine (specIsAccess_any _ l0 _ _ l1 _ x2 _ _ _ (ints.below' d1h_5 ?_) (meths.below' d2h_5 ?_) (ints.below' d3hvals_5 ?_)).mono ?_
         · (repeat (first | exact Below.refl _ _ | refine ba ?_ | refine bdr ?_ | refine bs ?_ (by simp)))
         · (repeat (first | exact Below.refl _ _ | refine ba ?_ | refine bdr ?_ | refine bs ?_ (by simp)))
         · (repeat (first | exact Below.refl _ _ | refine ba ?_ | refine bdr ?_ | refine bs ?_ (by simp)))
         rintro e w6 ⟨rfl, hb6⟩
         have D6 : Below w5.heap.size w5 w6 := bt (by (repeat (first | exact Below.refl _ _ | refine ba ?_ | refine bdr ?_ | refine bs ?_ (by simp)))) hb6
         have B6 : Below w.heap.size w w6 := bt B5 D6
         have b5c0_6 : w6.cell? ⟨w.heap.size, 0, none⟩ = some (.int .i64 x2.meth) := cell_below b5c0_5 D6
         have b5c1_6 : w6.cell? ⟨w.heap.size, 1, none⟩ = some ((.slice p2vals x2.vals.length q2vals)) := cell_below b5c1_5 D6))
  clear b5c0_2 b5c1_2 b5c0_3 b5c1_3 d1h_3 b5c0_4 b5c1_4 d1h_4 d2h_4 b5c0_5 b5c1_5 d1h_5 d2h_5 d3hvals_5
  go_wp2_with fail
  refine (toIntS_any _ l0 _ (intsV.below' g0 ?_) n0).mono ?_
  · (repeat (first | exact B6 | refine ba ?_ | refine bdr ?_ | refine bs ?_ (by simp)))
  rintro e w7 ⟨d4v, d4f, rfl, d4h_7, d4fr, hb7⟩
  obtain ⟨d4a, d4c, rfl⟩ := slR.form d4h_7
  have D7 : Below w6.heap.size w6 w7 := bt (by (repeat (first | exact Below.refl _ _ | refine ba ?_ | refine bdr ?_ | refine bs ?_ (by simp)))) hb7
  have B7 : Below w.heap.size w w7 := bt B6 D7
  have b5c0_7 : w7.cell? ⟨w.heap.size, 0, none⟩ = some (.int .i64 x2.meth) := cell_below b5c0_6 D7
  have b5c1_7 : w7.cell? ⟨w.heap.size, 1, none⟩ = some ((.slice p2vals x2.vals.length q2vals)) := cell_below b5c1_6 D7
  clear b5c0_6 b5c1_6
  go_wp2_with fail
  refine (toMethodS_any _ l1 _ (methsV.below' g1 ?_) nl1 nl1i).mono ?_
  · (repeat (first | exact B7 | refine ba ?_ | refine bdr ?_ | refine bs ?_ (by simp)))
  rintro e w8 ⟨d5v, d5f, rfl, d5h_8, d5fr, hb8⟩
  obtain ⟨d5a, d5c, rfl⟩ := slR.form d5h_8
  have D8 : Below w7.heap.size w7 w8 := bt (by (repeat (first | exact Below.refl _ _ | refine ba ?_ | refine bdr ?_ | refine bs ?_ (by simp)))) hb8
  have B8 : Below w.heap.size w w8 := bt B7 D8
  have b5c0_8 : w8.cell? ⟨w.heap.size, 0, none⟩ = some (.int .i64 x2.meth) := cell_below b5c0_7 D8
  have b5c1_8 : w8.cell? ⟨w.heap.size, 1, none⟩ = some ((.slice p2vals x2.vals.length q2vals)) := cell_below b5c1_7 D8
  have d4h_8 := d4h_7.below' D8
  clear b5c0_7 b5c1_7 d4h_7
  go_wp2_with fail
  refine (toAccess_any x2 _ _ (intsV.below' h2vals ?_) nx2vals).mono ?_
  · (repeat (first | exact B8 | refine ba ?_ | refine bdr ?_ | refine bs ?_ (by simp)))
  rintro e w9 ⟨d6vvals, d6fvals, rfl, d6hvals_9, d6fr, hb9⟩
  obtain ⟨d6avals, d6cvals, rfl⟩ := slR.form d6hvals_9
  have D9 : Below w8.heap.size w8 w9 := bt (by (repeat (first | exact Below.refl _ _ | refine ba ?_ | refine bdr ?_ | refine bs ?_ (by simp)))) hb9
  have B9 : Below w.heap.size w w9 := bt B8 D9
  have b5c0_9 : w9.cell? ⟨w.heap.size, 0, none⟩ = some (.int .i64 x2.meth) := cell_below b5c0_8 D9
  have b5c1_9 : w9.cell? ⟨w.heap.size, 1, none⟩ = some ((.slice p2vals x2.vals.length q2vals)) := cell_below b5c1_8 D9
  have d4h_9 := d4h_8.below' D9
  have d5h_9 := d5h_8.below' D9
  clear b5c0_8 b5c1_8 d4h_8 d5h_8
  have b5c0_9n := fun o => cell_al b5c0_9 o
  have b5c1_9n := fun o => cell_al b5c1_9 o
  go_wp2_with fail
  refine (implIsAccess_any _ l0 _ _ l1 _ x2 _ _ _ (ints.below' d4h_9 ?_) (meths.below' d5h_9 ?_) (ints.below' d6hvals_9 ?_)).mono ?_
  · (repeat (first | exact Below.refl _ _ | refine ba ?_ | refine bdr ?_ | refine bs ?_ (by simp)))
  · (repeat (first | exact Below.refl _ _ | refine ba ?_ | refine bdr ?_ | refine bs ?_ (by simp)))
  · (repeat (first | exact Below.refl _ _ | refine ba ?_ | refine bdr ?_ | refine bs ?_ (by simp)))
  rintro e w10 ⟨rfl, hb10⟩
  have D10 : Below w9.heap.size w9 w10 := bt (by (repeat (first | exact Below.refl _ _ | refine ba ?_ | refine bdr ?_ | refine bs ?_ (by simp)))) hb10
  have B10 : Below w.heap.size w w10 := bt B9 D10
  have b5c0_10 : w10.cell? ⟨w.heap.size, 0, none⟩ = some (.int .i64 x2.meth) := cell_below b5c0_9 D10
  have b5c1_10 : w10.cell? ⟨w.heap.size, 1, none⟩ = some ((.slice p2vals x2.vals.length q2vals)) := cell_below b5c1_9 D10
  have b11c0_10 : w10.cell? ⟨w9.heap.size, 0, none⟩ = some (.int .i64 x2.meth) := cell_below (cell_new _ _ _ 0 _ rfl) hb10
  have b11c1_10 : w10.cell? ⟨w9.heap.size, 1, none⟩ = some ((.slice d6avals x2.vals.length d6cvals)) := cell_below (cell_new _ _ _ 1 _ rfl) hb10
  have d4h_10 := d4h_9.below' D10
  have d5h_10 := d5h_9.below' D10
  have d6hvals_10 := d6hvals_9.below' D10
  clear b5c0_9 b5c1_9 d4h_9 d5h_9 d6hvals_9 b5c0_9n b5c1_9n
  go_wp2_with fail
  refine (toIntS_any _ l0 _ (intsV.below' g0 ?_) n0).mono ?_
  · (repeat (first | exact B10 | refine ba ?_ | refine bdr ?_ | refine bs ?_ (by simp)))
  rintro e w11 ⟨d7v, d7f, rfl, d7h_11, d7fr, hb11⟩
  obtain ⟨d7a, d7c, rfl⟩ := slR.form d7h_11
  have D11 : Below w10.heap.size w10 w11 := bt (by (repeat (first | exact Below.refl _ _ | refine ba ?_ | refine bdr ?_ | refine bs ?_ (by simp)))) hb11
  have B11 : Below w.heap.size w w11 := bt B10 D11
  have b5c0_11 : w11.cell? ⟨w.heap.size, 0, none⟩ = some (.int .i64 x2.meth) := cell_below b5c0_10 D11
  have b5c1_11 : w11.cell? ⟨w.heap.size, 1, none⟩ = some ((.slice p2vals x2.vals.length q2vals)) := cell_below b5c1_10 D11
  have b11c0_11 : w11.cell? ⟨w9.heap.size, 0, none⟩ = some (.int .i64 x2.meth) := cell_below b11c0_10 D11
  have b11c1_11 : w11.cell? ⟨w9.heap.size, 1, none⟩ = some ((.slice d6avals x2.vals.length d6cvals)) := cell_below b11c1_10 D11
  have d4h_11 := d4h_10.below' D11
  have d5h_11 := d5h_10.below' D11
  have d6hvals_11 := d6hvals_10.below' D11
  clear b5c0_10 b5c1_10 b11c0_10 b11c1_10 d4h_10 d5h_10 d6hvals_10
  go_wp2_with fail
  refine (eqIntS_any _ _ l0 l0 _ _ _ (ints.below' d4h_11 ?_) (ints.below' d7h_11 ?_)).mono ?_
  · (repeat (first | exact Below.refl _ _ | refine ba ?_ | refine bdr ?_ | refine bs ?_ (by simp)))
  · (repeat (first | exact Below.refl _ _ | refine ba ?_ | refine bdr ?_ | refine bs ?_ (by simp)))
  rintro e w12 ⟨rfl, hb12⟩
  have D12 : Below w11.heap.size w11 w12 := bt (by (repeat (first | exact Below.refl _ _ | refine ba ?_ | refine bdr ?_ | refine bs ?_ (by simp)))) hb12
  have B12 : Below w.heap.size w w12 := bt B11 D12
  have b5c0_12 : w12.cell? ⟨w.heap.size, 0, none⟩ = some (.int .i64 x2.meth) := cell_below b5c0_11 D12
  have b5c1_12 : w12.cell? ⟨w.heap.size, 1, none⟩ = some ((.slice p2vals x2.vals.length q2vals)) := cell_below b5c1_11 D12
  have b11c0_12 : w12.cell? ⟨w9.heap.size, 0, none⟩ = some (.int .i64 x2.meth) := cell_below b11c0_11 D12
  have b11c1_12 : w12.cell? ⟨w9.heap.size, 1, none⟩ = some ((.slice d6avals x2.vals.length d6cvals)) := cell_below b11c1_11 D12
  have d5h_12 := d5h_11.below' D12
  have d6hvals_12 := d6hvals_11.below' D12
  clear b5c0_11 b5c1_11 b11c0_11 b11c1_11 d4h_11 d5h_11 d6hvals_11 d7h_11
  go_wp2_with fail
  refine (toMethodS_any _ l1 _ (methsV.below' g1 ?_) nl1 nl1i).mono ?_
  · (repeat (first | exact B12 | refine ba ?_ | refine bdr ?_ | refine bs ?_ (by simp)))
  rintro e w13 ⟨d8v, d8f, rfl, d8h_13, d8fr, hb13⟩
  obtain ⟨d8a, d8c, rfl⟩ := slR.form d8h_13
  have D13 : Below w12.heap.size w12 w13 := bt (by (repeat (first | exact Below.refl _ _ | refine ba ?_ | refine bdr ?_ | refine bs ?_ (by simp)))) hb13
  have B13 : Below w.heap.size w w13 := bt B12 D13
  have b5c0_13 : w13.cell? ⟨w.heap.size, 0, none⟩ = some (.int .i64 x2.meth) := cell_below b5c0_12 D13
  have b5c1_13 : w13.cell? ⟨w.heap.size, 1, none⟩ = some ((.slice p2vals x2.vals.length q2vals)) := cell_below b5c1_12 D13
  have b11c0_13 : w13.cell? ⟨w9.heap.size, 0, none⟩ = some (.int .i64 x2.meth) := cell_below b11c0_12 D13
  have b11c1_13 : w13.cell? ⟨w9.heap.size, 1, none⟩ = some ((.slice d6avals x2.vals.length d6cvals)) := cell_below b11c1_12 D13
  have d5h_13 := d5h_12.below' D13
  have d6hvals_13 := d6hvals_12.below' D13
  clear b5c0_12 b5c1_12 b11c0_12 b11c1_12 d5h_12 d6hvals_12
  go_wp2_with fail
  refine (eqMethodS_any _ _ l1 l1 _ _ _ (meths.below' d5h_13 ?_) (meths.below' d8h_13 ?_)).mono ?_
  · (repeat (first | exact Below.refl _ _ | refine ba ?_ | refine bdr ?_ | refine bs ?_ (by simp)))
  · (repeat (first | exact Below.refl _ _ | refine ba ?_ | refine bdr ?_ | refine bs ?_ (by simp)))
  rintro e w14 ⟨rfl, hb14⟩
  have D14 : Below w13.heap.size w13 w14 := bt (by (repeat (first | exact Below.refl _ _ | refine ba ?_ | refine bdr ?_ | refine bs ?_ (by simp)))) hb14
  have B14 : Below w.heap.size w w14 := bt B13 D14
  have b5c0_14 : w14.cell? ⟨w.heap.size, 0, none⟩ = some (.int .i64 x2.meth) := cell_below b5c0_13 D14
  have b5c1_14 : w14.cell? ⟨w.heap.size, 1, none⟩ = some ((.slice p2vals x2.vals.length q2vals)) := cell_below b5c1_13 D14
  have b11c0_14 : w14.cell? ⟨w9.heap.size, 0, none⟩ = some (.int .i64 x2.meth) := cell_below b11c0_13 D14
  have b11c1_14 : w14.cell? ⟨w9.heap.size, 1, none⟩ = some ((.slice d6avals x2.vals.length d6cvals)) := cell_below b11c1_13 D14
  have d6hvals_14 := d6hvals_13.below' D14
  clear b5c0_13 b5c1_13 b11c0_13 b11c1_13 d5h_13 d6hvals_13 d8h_13
  go_wp2_with fail
  go_region_held3 (fun w' => w'.cell? ⟨w9.heap.size, 0, none⟩ = some (.int .i64 x2.meth) ∧ w'.cell? ⟨w9.heap.size, 1, none⟩ = some ((.slice d6avals x2.vals.length d6cvals)) ∧ w'.cell? ⟨w.heap.size, 0, none⟩ = some (.int .i64 x2.meth) ∧ w'.cell? ⟨w.heap.size, 1, none⟩ = some ((.slice p2vals x2.vals.length q2vals))) (first | exact ⟨b11c0_14, b11c1_14, b5c0_14, b5c1_14⟩ | exact ⟨b11c0_15, b11c1_15, b5c0_15, b5c1_15⟩ | exact ⟨b11c0_16, b11c1_16, b5c0_16, b5c1_16⟩)
    (first
      | (go_at_call 20
         with_reducible refine (toAccess_any x2 _ _ (intsV.below' h2vals ?_) nx2vals).mono ?_
         · (repeat (first | exact B14 | refine ba ?_ | refine bdr ?_ | refine bs ?_ (by simp)))
         rintro e w15 ⟨d9vvals, d9fvals, rfl, d9hvals_15, d9fr, hb15⟩
         obtain ⟨d9avals, d9cvals, rfl⟩ := slR.form d9hvals_15
         have D15 : Below w14.heap.size w14 w15 := bt (by (repeat (first | exact Below.refl _ _ | refine ba ?_ | refine bdr ?_ | refine bs ?_ (by simp)))) hb15
         have B15 : Below w.heap.size w w15 := bt B14 D15
         have b5c0_15 : w15.cell? ⟨w.heap.size, 0, none⟩ = some (.int .i64 x2.meth) := cell_below b5c0_14 D15
         have b5c1_15 : w15.cell? ⟨w.heap.size, 1, none⟩ = some ((.slice p2vals x2.vals.length q2vals)) := cell_below b5c1_14 D15
         have b11c0_15 : w15.cell? ⟨w9.heap.size, 0, none⟩ = some (.int .i64 x2.meth) := cell_below b11c0_14 D15
         have b11c1_15 : w15.cell? ⟨w9.heap.size, 1, none⟩ = some ((.slice d6avals x2.vals.length d6cvals)) := cell_below b11c1_14 D15
         have d6hvals_15 := d6hvals_14.below' D15)
      | (go_at_call 24
         with_reducible refine (eqAccess_any x2 x2 _ _ _ _ _ (ints.below' d6hvals_15 ?_) (ints.below' d9hvals_15 ?_)).mono ?_
         · (repeat (first | exact Below.refl _ _ | refine ba ?_ | refine bdr ?_ | refine bs ?_ (by simp)))
         · (repeat (first | exact Below.refl _ _ | refine ba ?_ | refine bdr ?_ | refine bs ?_ (by simp)))
         rintro e w16 ⟨rfl, hb16⟩
         have D16 : Below w15.heap.size w15 w16 := bt (by (repeat (first | exact Below.refl _ _ | refine ba ?_ | refine bdr ?_ | refine bs ?_ (by simp)))) hb16
         have B16 : Below w.heap.size w w16 := bt B15 D16
         have b5c0_16 : w16.cell? ⟨w.heap.size, 0, none⟩ = some (.int .i64 x2.meth) := cell_below b5c0_15 D16
         have b5c1_16 : w16.cell? ⟨w.heap.size, 1, none⟩ = some ((.slice p2vals x2.vals.length q2vals)) := cell_below b5c1_15 D16
         have b11c0_16 : w16.cell? ⟨w9.heap.size, 0, none⟩ = some (.int .i64 x2.meth) := cell_below b11c0_15 D16
         have b11c1_16 : w16.cell? ⟨w9.heap.size, 1, none⟩ = some ((.slice d6avals x2.vals.length d6cvals)) := cell_below b11c1_15 D16))
  clear b5c0_14 b5c1_14 b11c0_14 b11c1_14 d6hvals_14 b5c0_15 b5c1_15 b11c0_15 b11c1_15 d6hvals_15 d9hvals_15
  go_wp2
  go_ret
  exact ⟨rfl, B16⟩
end Go.Proofs.Ytinmiekbidfblaa
