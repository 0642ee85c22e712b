/- The walk of the law FnExactIsResponse: it returns true, whatever the input. -/
import Derived.Test.YtjjkfhjkfoikbaaIsResp
import Derived.Test.YtjjkfhjkfoikbaaHAcc
import Derived.Test.YtjjkfhjkfoikbaaFacts0
namespace Go.Proofs.Ytjjkfhjkfoikbaa
open Go.RowKit
set_option linter.unusedVariables false
set_option linter.unusedSimpArgs false
set_option maxRecDepth 100000 in
set_option maxHeartbeats 8000000 in
theorem fnExactIsResponse_walk (v0 : Value) (l0 : List Int) (v1 : Value) (l1 : List MethD) (v2 : Value) (l2 : List FactD) (cs3 : List Value) (x3 : AccD) (v4 : Value) (l4 : List FactD) (w : World) (g0 : intsV w v0 l0) (g1 : methsV w v1 l1) (g2 : factsV w v2 l2) (g3 : accW w cs3 x3) (g4 : factsV w v4 l4)  :
    Calls Try.prog 7 #[v0, v1, v2, .agg cs3.toArray, v4] w fun e w' => e = .returned (.bool true) ∧ Below w.heap.size w w' := by
  obtain ⟨p0, q0, rfl⟩ := slW.form g0
  obtain ⟨p1, q1, rfl⟩ := slW.form g1
  obtain ⟨p2, q2, rfl⟩ := slW.form g2
  obtain ⟨v3vals, rfl, i3meth, h3vals⟩ := g3
  obtain ⟨p3vals, q3vals, rfl⟩ := slW.form h3vals
  obtain ⟨p4, q4, rfl⟩ := slW.form g4
  have b8c0_0 : (w.alloc (.cells #[.int .i64 x3.meth, (.slice p3vals x3.vals.length q3vals)] 81)).cell? ⟨w.heap.size, 0, none⟩ = some (.int .i64 x3.meth) := cell_new w _ _ 0 _ rfl
  have b8c1_0 : (w.alloc (.cells #[.int .i64 x3.meth, (.slice p3vals x3.vals.length q3vals)] 81)).cell? ⟨w.heap.size, 1, none⟩ = some ((.slice p3vals x3.vals.length q3vals)) := cell_new w _ _ 1 _ rfl
  by_cases n0 : l0.length ≤ 1048576
  case neg =>
    go_enter Try.func7, Try.ntmps7
    go_wp2
    go_ret
    exact ⟨rfl, by (repeat (first | exact Below.refl _ _ | refine ba ?_ | refine bdr ?_ | refine bs ?_ (by simp)))⟩
  have rr : (respB l0 l1 l2 x3 l4 != respB l0 l1 l2 x3 l4) = false := by simp
  have rd0 : decide (l0 = l0) = true := by simp
  have rd1 : decide (l1 = l1) = true := by simp
  have rd2 : decide (l2 = l2) = true := by simp
  have rd3 : decide (x3 = x3) = true := by simp
  have rd4 : decide (l4 = l4) = true := by simp
  go_enter Try.func7, Try.ntmps7
  go_wp2_with fail
  refine (szMethodS_any _ l1 (1048576) _ (methsV.below' g1 ?_) ⟨by omega, by omega⟩).mono ?_
  · (repeat (first | exact Below.refl _ _ | refine ba ?_ | refine bdr ?_ | refine bs ?_ (by simp)))
  rintro e w1 ⟨rfl, hb1⟩
  have D1 : Below w.heap.size w w1 := bt (by (repeat (first | exact Below.refl _ _ | refine ba ?_ | refine bdr ?_ | refine bs ?_ (by simp)))) hb1
  have B1 : Below w.heap.size w w1 := D1
  have b8c0_1 : w1.cell? ⟨w.heap.size, 0, none⟩ = some (.int .i64 x3.meth) := cell_below (b8c0_0) hb1
  have b8c1_1 : w1.cell? ⟨w.heap.size, 1, none⟩ = some ((.slice p3vals x3.vals.length q3vals)) := cell_below (b8c1_0) hb1
  clear b8c0_0 b8c1_0
  rcases left_cases (bulkMethodS l1) (1048576) (by omega) with ⟨t0, t1⟩ | ⟨t0, t1⟩
  case inl =>
    have T1 := Lib.hid t1; clear t1
    go_wp2
    go_ret
    exact ⟨rfl, B1⟩
  have T1 := Lib.hid t1; clear t1
  obtain ⟨ql1, el11, el12⟩ := left_bd t0 (by omega) (by omega)
  clear t0
  have nl1 : l1.length ≤ 1048576 := by have h9 := ql1; unfold bulkMethodS at h9; omega
  have nl1i : ∀ y ∈ l1, y.inputs.length ≤ 1048576 := fun y hy => by have h9 := ql1; unfold bulkMethodS at h9; have h8 := sum_ge_mem (f := fun x => bulkMethod x) hy; unfold bulkMethod at h8 h9; omega
  go_wp2_with fail
  refine (szFactS_any _ l2 (left (bulkMethodS l1) (1048576)) _ (factsV.below' g2 ?_) ⟨by omega, by omega⟩).mono ?_
  · (repeat (first | exact B1 | refine ba ?_ | refine bdr ?_ | refine bs ?_ (by simp)))
  rintro e w2 ⟨rfl, hb2⟩
  have D2 : Below w1.heap.size w1 w2 := bt (by (repeat (first | exact Below.refl _ _ | refine ba ?_ | refine bdr ?_ | refine bs ?_ (by simp)))) hb2
  have B2 : Below w.heap.size w w2 := bt B1 D2
  have b8c0_2 : w2.cell? ⟨w.heap.size, 0, none⟩ = some (.int .i64 x3.meth) := cell_below b8c0_1 D2
  have b8c1_2 : w2.cell? ⟨w.heap.size, 1, none⟩ = some ((.slice p3vals x3.vals.length q3vals)) := cell_below b8c1_1 D2
  clear b8c0_1 b8c1_1
  rcases left_cases (bulkFactS l2) (left (bulkMethodS l1) (1048576)) (by omega) with ⟨t0, t1⟩ | ⟨t0, t1⟩
  case inl =>
    have T1 := Lib.hid t1; clear t1
    go_wp2
    go_ret
    exact ⟨rfl, B2⟩
  have T2 := Lib.hid t1; clear t1
  obtain ⟨ql2, el21, el22⟩ := left_bd t0 (by omega) (by omega)
  clear t0
  have nl2 : l2.length ≤ 1048576 := by have h9 := ql2; unfold bulkFactS at h9; omega
  have nl2i : ∀ y ∈ l2, y.vals.length ≤ 1048576 := fun y hy => by have h9 := ql2; unfold bulkFactS at h9; have h8 := sum_ge_mem (f := fun x => bulkFact x) hy; unfold bulkFact at h8 h9; omega
  go_wp2_with fail
  refine (szAccess_any x3 _ (left (bulkFactS l2) (left (bulkMethodS l1) (1048576))) _ (intsV.below' h3vals ?_) ⟨by omega, by omega⟩).mono ?_
  · (repeat (first | exact B2 | refine ba ?_ | refine bdr ?_ | refine bs ?_ (by simp)))
  rintro e w3 ⟨rfl, hb3⟩
  have D3 : Below w2.heap.size w2 w3 := bt (by (repeat (first | exact Below.refl _ _ | refine ba ?_ | refine bdr ?_ | refine bs ?_ (by simp)))) hb3
  have B3 : Below w.heap.size w w3 := bt B2 D3
  have b8c0_3 : w3.cell? ⟨w.heap.size, 0, none⟩ = some (.int .i64 x3.meth) := cell_below b8c0_2 D3
  have b8c1_3 : w3.cell? ⟨w.heap.size, 1, none⟩ = some ((.slice p3vals x3.vals.length q3vals)) := cell_below b8c1_2 D3
  clear b8c0_2 b8c1_2
  rcases left_cases (bulkAccess x3) (left (bulkFactS l2) (left (bulkMethodS l1) (1048576))) (by omega) with ⟨t0, t1⟩ | ⟨t0, t1⟩
  case inl =>
    have T1 := Lib.hid t1; clear t1
    go_wp2
    go_ret
    exact ⟨rfl, B3⟩
  have T3 := Lib.hid t1; clear t1
  obtain ⟨qx3, ex31, ex32⟩ := left_bd t0 (by omega) (by omega)
  clear t0
  have nx3vals : x3.vals.length ≤ 1048576 := by have h9 := qx3; unfold bulkAccess at h9; omega
  go_wp2_with fail
  refine (szFactS_any _ l4 (left (bulkAccess x3) (left (bulkFactS l2) (left (bulkMethodS l1) (1048576)))) _ (factsV.below' g4 ?_) ⟨by omega, by omega⟩).mono ?_
  · (repeat (first | exact B3 | refine ba ?_ | refine bdr ?_ | refine bs ?_ (by simp)))
  rintro e w4 ⟨rfl, hb4⟩
  have D4 : Below w3.heap.size w3 w4 := bt (by (repeat (first | exact Below.refl _ _ | refine ba ?_ | refine bdr ?_ | refine bs ?_ (by simp)))) hb4
  have B4 : Below w.heap.size w w4 := bt B3 D4
  have b8c0_4 : w4.cell? ⟨w.heap.size, 0, none⟩ = some (.int .i64 x3.meth) := cell_below b8c0_3 D4
  have b8c1_4 : w4.cell? ⟨w.heap.size, 1, none⟩ = some ((.slice p3vals x3.vals.length q3vals)) := cell_below b8c1_3 D4
  clear b8c0_3 b8c1_3
  rcases left_cases (bulkFactS l4) (left (bulkAccess x3) (left (bulkFactS l2) (left (bulkMethodS l1) (1048576)))) (by omega) with ⟨t0, t1⟩ | ⟨t0, t1⟩
  case inl =>
    have T1 := Lib.hid t1; clear t1
    go_wp2
    go_ret
    exact ⟨rfl, B4⟩
  have T4 := Lib.hid t1; clear t1
  obtain ⟨ql4, el41, el42⟩ := left_bd t0 (by omega) (by omega)
  clear t0
  have nl4 : l4.length ≤ 1048576 := by have h9 := ql4; unfold bulkFactS at h9; omega
  have nl4i : ∀ y ∈ l4, y.vals.length ≤ 1048576 := fun y hy => by have h9 := ql4; unfold bulkFactS at h9; have h8 := sum_ge_mem (f := fun x => bulkFact x) hy; unfold bulkFact at h8 h9; omega
  go_wp2_with fail
  go_region_held3 (fun w' => w'.cell? ⟨w.heap.size, 0, none⟩ = some (.int .i64 x3.meth) ∧ w'.cell? ⟨w.heap.size, 1, none⟩ = some ((.slice p3vals x3.vals.length q3vals))) (first | exact ⟨b8c0_4, b8c1_4⟩ | exact ⟨b8c0_5, b8c1_5⟩ | exact ⟨b8c0_6, b8c1_6⟩ | exact ⟨b8c0_7, b8c1_7⟩ | exact ⟨b8c0_8, b8c1_8⟩ | exact ⟨b8c0_9, b8c1_9⟩ | exact ⟨b8c0_10, b8c1_10⟩)
    (first
      | (go_at_call 29
         with_reducible refine (toIntS_any _ l0 _ (intsV.below' g0 ?_) n0).mono ?_
         · (repeat (first | exact B4 | refine ba ?_ | refine bdr ?_ | refine bs ?_ (by simp)))
         rintro e w5 ⟨d1v, d1f, rfl, d1h_5, d1fr, hb5⟩
         obtain ⟨d1a, d1c, rfl⟩ := slR.form d1h_5
         have D5 : Below w4.heap.size w4 w5 := bt (by (repeat (first | exact Below.refl _ _ | refine ba ?_ | refine bdr ?_ | refine bs ?_ (by simp)))) hb5
         have B5 : Below w.heap.size w w5 := bt B4 D5
         have b8c0_5 : w5.cell? ⟨w.heap.size, 0, none⟩ = some (.int .i64 x3.meth) := cell_below b8c0_4 D5
         have b8c1_5 : w5.cell? ⟨w.heap.size, 1, none⟩ = some ((.slice p3vals x3.vals.length q3vals)) := cell_below b8c1_4 D5)
      | (go_at_call 55
         with_reducible refine (toMethodS_any _ l1 _ (methsV.below' g1 ?_) nl1 nl1i).mono ?_
         · (repeat (first | exact B5 | refine ba ?_ | refine bdr ?_ | refine bs ?_ (by simp)))
         rintro e w6 ⟨d2v, d2f, rfl, d2h_6, d2fr, hb6⟩
         obtain ⟨d2a, d2c, rfl⟩ := slR.form d2h_6
         have D6 : Below w5.heap.size w5 w6 := bt (by (repeat (first | exact Below.refl _ _ | refine ba ?_ | refine bdr ?_ | refine bs ?_ (by simp)))) hb6
         have B6 : Below w.heap.size w w6 := bt B5 D6
         have b8c0_6 : w6.cell? ⟨w.heap.size, 0, none⟩ = some (.int .i64 x3.meth) := cell_below b8c0_5 D6
         have b8c1_6 : w6.cell? ⟨w.heap.size, 1, none⟩ = some ((.slice p3vals x3.vals.length q3vals)) := cell_below b8c1_5 D6
         have d1h_6 := d1h_5.below' D6)
      | (go_at_call 40
         with_reducible refine (toFactS_any _ l2 _ (factsV.below' g2 ?_) nl2 nl2i).mono ?_
         · (repeat (first | exact B6 | refine ba ?_ | refine bdr ?_ | refine bs ?_ (by simp)))
         rintro e w7 ⟨d3v, d3f, rfl, d3h_7, d3fr, hb7⟩
         obtain ⟨d3a, d3c, rfl⟩ := slR.form d3h_7
         have D7 : Below w6.heap.size w6 w7 := bt (by (repeat (first | exact Below.refl _ _ | refine ba ?_ | refine bdr ?_ | refine bs ?_ (by simp)))) hb7
         have B7 : Below w.heap.size w w7 := bt B6 D7
         have b8c0_7 : w7.cell? ⟨w.heap.size, 0, none⟩ = some (.int .i64 x3.meth) := cell_below b8c0_6 D7
         have b8c1_7 : w7.cell? ⟨w.heap.size, 1, none⟩ = some ((.slice p3vals x3.vals.length q3vals)) := cell_below b8c1_6 D7
         have d1h_7 := d1h_6.below' D7
         have d2h_7 := d2h_6.below' D7)
      | (go_at_call 56
         with_reducible refine (toAccess_any x3 _ _ (intsV.below' h3vals ?_) nx3vals).mono ?_
         · (repeat (first | exact B7 | refine ba ?_ | refine bdr ?_ | refine bs ?_ (by simp)))
         rintro e w8 ⟨d4vvals, d4fvals, rfl, d4hvals_8, d4fr, hb8⟩
         obtain ⟨d4avals, d4cvals, rfl⟩ := slR.form d4hvals_8
         have D8 : Below w7.heap.size w7 w8 := bt (by (repeat (first | exact Below.refl _ _ | refine ba ?_ | refine bdr ?_ | refine bs ?_ (by simp)))) hb8
         have B8 : Below w.heap.size w w8 := bt B7 D8
         have b8c0_8 : w8.cell? ⟨w.heap.size, 0, none⟩ = some (.int .i64 x3.meth) := cell_below b8c0_7 D8
         have b8c1_8 : w8.cell? ⟨w.heap.size, 1, none⟩ = some ((.slice p3vals x3.vals.length q3vals)) := cell_below b8c1_7 D8
         have d1h_8 := d1h_7.below' D8
         have d2h_8 := d2h_7.below' D8
         have d3h_8 := d3h_7.below' D8)
      | (go_at_call 40
         with_reducible refine (toFactS_any _ l4 _ (factsV.below' g4 ?_) nl4 nl4i).mono ?_
         · (repeat (first | exact B8 | refine ba ?_ | refine bdr ?_ | refine bs ?_ (by simp)))
         rintro e w9 ⟨d5v, d5f, rfl, d5h_9, d5fr, hb9⟩
         obtain ⟨d5a, d5c, rfl⟩ := slR.form d5h_9
         have D9 : Below w8.heap.size w8 w9 := bt (by (repeat (first | exact Below.refl _ _ | refine ba ?_ | refine bdr ?_ | refine bs ?_ (by simp)))) hb9
         have B9 : Below w.heap.size w w9 := bt B8 D9
         have b8c0_9 : w9.cell? ⟨w.heap.size, 0, none⟩ = some (.int .i64 x3.meth) := cell_below b8c0_8 D9
         have b8c1_9 : w9.cell? ⟨w.heap.size, 1, none⟩ = some ((.slice p3vals x3.vals.length q3vals)) := cell_below b8c1_8 D9
         have d1h_9 := d1h_8.below' D9
         have d2h_9 := d2h_8.below' D9
         have d3h_9 := d3h_8.below' D9
         have d4hvals_9 := d4hvals_8.below' D9)
      | (go_at_call 54
         with_reducible refine (specIsResponse_any _ l0 _ _ l1 _ _ l2 _ x3 _ _ _ l4 _ _ (ints.below' d1h_9 ?_) (meths.below' d2h_9 ?_) (facts.below' d3h_9 ?_) (ints.below' d4hvals_9 ?_) (facts.below' d5h_9 ?_) nl2 nl2i).mono ?_
         · (repeat (first | exact Below.refl _ _ | refine ba ?_ | refine bdr ?_ | refine bs ?_ (by simp)))
         · (repeat (first | exact Below.refl _ _ | refine ba ?_ | refine bdr ?_ | refine bs ?_ (by simp)))
         · (repeat (first | exact Below.refl _ _ | refine ba ?_ | refine bdr ?_ | refine bs ?_ (by simp)))
         · (repeat (first | exact Below.refl _ _ | refine ba ?_ | refine bdr ?_ | refine bs ?_ (by simp)))
         · (repeat (first | exact Below.refl _ _ | refine ba ?_ | refine bdr ?_ | refine bs ?_ (by simp)))
         rintro e w10 ⟨rfl, hb10⟩
         have D10 : Below w9.heap.size w9 w10 := bt (by (repeat (first | exact Below.refl _ _ | refine ba ?_ | refine bdr ?_ | refine bs ?_ (by simp)))) hb10
         have B10 : Below w.heap.size w w10 := bt B9 D10
         have b8c0_10 : w10.cell? ⟨w.heap.size, 0, none⟩ = some (.int .i64 x3.meth) := cell_below b8c0_9 D10
         have b8c1_10 : w10.cell? ⟨w.heap.size, 1, none⟩ = some ((.slice p3vals x3.vals.length q3vals)) := cell_below b8c1_9 D10))
  clear b8c0_4 b8c1_4 b8c0_5 b8c1_5 d1h_5 b8c0_6 b8c1_6 d1h_6 d2h_6 b8c0_7 b8c1_7 d1h_7 d2h_7 d3h_7 b8c0_8 b8c1_8 d1h_8 d2h_8 d3h_8 d4hvals_8 b8c0_9 b8c1_9 d1h_9 d2h_9 d3h_9 d4hvals_9 d5h_9
  go_wp2_with fail
  refine (toIntS_any _ l0 _ (intsV.below' g0 ?_) n0).mono ?_
  · (repeat (first | exact B10 | refine ba ?_ | refine bdr ?_ | refine bs ?_ (by simp)))
  rintro e w11 ⟨d6v, d6f, rfl, d6h_11, d6fr, hb11⟩
  obtain ⟨d6a, d6c, rfl⟩ := slR.form d6h_11
  have D11 : Below w10.heap.size w10 w11 := bt (by (repeat (first | exact Below.refl _ _ | refine ba ?_ | refine bdr ?_ | refine bs ?_ (by simp)))) hb11
  have B11 : Below w.heap.size w w11 := bt B10 D11
  have b8c0_11 : w11.cell? ⟨w.heap.size, 0, none⟩ = some (.int .i64 x3.meth) := cell_below b8c0_10 D11
  have b8c1_11 : w11.cell? ⟨w.heap.size, 1, none⟩ = some ((.slice p3vals x3.vals.length q3vals)) := cell_below b8c1_10 D11
  clear b8c0_10 b8c1_10
  go_wp2_with fail
  refine (toMethodS_any _ l1 _ (methsV.below' g1 ?_) nl1 nl1i).mono ?_
  · (repeat (first | exact B11 | refine ba ?_ | refine bdr ?_ | refine bs ?_ (by simp)))
  rintro e w12 ⟨d7v, d7f, rfl, d7h_12, d7fr, hb12⟩
  obtain ⟨d7a, d7c, rfl⟩ := slR.form d7h_12
  have D12 : Below w11.heap.size w11 w12 := bt (by (repeat (first | exact Below.refl _ _ | refine ba ?_ | refine bdr ?_ | refine bs ?_ (by simp)))) hb12
  have B12 : Below w.heap.size w w12 := bt B11 D12
  have b8c0_12 : w12.cell? ⟨w.heap.size, 0, none⟩ = some (.int .i64 x3.meth) := cell_below b8c0_11 D12
  have b8c1_12 : w12.cell? ⟨w.heap.size, 1, none⟩ = some ((.slice p3vals x3.vals.length q3vals)) := cell_below b8c1_11 D12
  have d6h_12 := d6h_11.below' D12
  clear b8c0_11 b8c1_11 d6h_11
  go_wp2_with fail
  refine (toFactS_any _ l2 _ (factsV.below' g2 ?_) nl2 nl2i).mono ?_
  · (repeat (first | exact B12 | refine ba ?_ | refine bdr ?_ | refine bs ?_ (by simp)))
  rintro e w13 ⟨d8v, d8f, rfl, d8h_13, d8fr, hb13⟩
  obtain ⟨d8a, d8c, rfl⟩ := slR.form d8h_13
  have D13 : Below w12.heap.size w12 w13 := bt (by (repeat (first | exact Below.refl _ _ | refine ba ?_ | refine bdr ?_ | refine bs ?_ (by simp)))) hb13
  have B13 : Below w.heap.size w w13 := bt B12 D13
  have b8c0_13 : w13.cell? ⟨w.heap.size, 0, none⟩ = some (.int .i64 x3.meth) := cell_below b8c0_12 D13
  have b8c1_13 : w13.cell? ⟨w.heap.size, 1, none⟩ = some ((.slice p3vals x3.vals.length q3vals)) := cell_below b8c1_12 D13
  have d6h_13 := d6h_12.below' D13
  have d7h_13 := d7h_12.below' D13
  clear b8c0_12 b8c1_12 d6h_12 d7h_12
  go_wp2_with fail
  refine (toAccess_any x3 _ _ (intsV.below' h3vals ?_) nx3vals).mono ?_
  · (repeat (first | exact B13 | refine ba ?_ | refine bdr ?_ | refine bs ?_ (by simp)))
  rintro e w14 ⟨d9vvals, d9fvals, rfl, d9hvals_14, d9fr, hb14⟩
  obtain ⟨d9avals, d9cvals, rfl⟩ := slR.form d9hvals_14
  have D14 : Below w13.heap.size w13 w14 := bt (by (repeat (first | exact Below.refl _ _ | refine ba ?_ | refine bdr ?_ | refine bs ?_ (by simp)))) hb14
  have B14 : Below w.heap.size w w14 := bt B13 D14
  have b8c0_14 : w14.cell? ⟨w.heap.size, 0, none⟩ = some (.int .i64 x3.meth) := cell_below b8c0_13 D14
  have b8c1_14 : w14.cell? ⟨w.heap.size, 1, none⟩ = some ((.slice p3vals x3.vals.length q3vals)) := cell_below b8c1_13 D14
  have d6h_14 := d6h_13.below' D14
  have d7h_14 := d7h_13.below' D14
  have d8h_14 := d8h_13.below' D14
  clear b8c0_13 b8c1_13 d6h_13 d7h_13 d8h_13
  have b8c0_14n := fun o => cell_al b8c0_14 o
  have b8c1_14n := fun o => cell_al b8c1_14 o
  go_wp2_with fail
  refine (toFactS_any _ l4 _ (factsV.below' g4 ?_) nl4 nl4i).mono ?_
  · (repeat (first | exact B14 | refine ba ?_ | refine bdr ?_ | refine bs ?_ (by simp)))
  rintro e w15 ⟨d10v, d10f, rfl, d10h_15, d10fr, hb15⟩
  obtain ⟨d10a, d10c, rfl⟩ := slR.form d10h_15
  have D15 : Below w14.heap.size w14 w15 := bt (by (repeat (first | exact Below.refl _ _ | refine ba ?_ | refine bdr ?_ | refine bs ?_ (by simp)))) hb15
  have B15 : Below w.heap.size w w15 := bt B14 D15
  have b8c0_15 : w15.cell? ⟨w.heap.size, 0, none⟩ = some (.int .i64 x3.meth) := cell_below b8c0_14 D15
  have b8c1_15 : w15.cell? ⟨w.heap.size, 1, none⟩ = some ((.slice p3vals x3.vals.length q3vals)) := cell_below b8c1_14 D15
  have b16c0_15 : w15.cell? ⟨w14.heap.size, 0, none⟩ = some (.int .i64 x3.meth) := cell_below (cell_new _ _ _ 0 _ rfl) hb15
  have b16c1_15 : w15.cell? ⟨w14.heap.size, 1, none⟩ = some ((.slice d9avals x3.vals.length d9cvals)) := cell_below (cell_new _ _ _ 1 _ rfl) hb15
  have d6h_15 := d6h_14.below' D15
  have d7h_15 := d7h_14.below' D15
  have d8h_15 := d8h_14.below' D15
  have d9hvals_15 := d9hvals_14.below' D15
  clear b8c0_14 b8c1_14 d6h_14 d7h_14 d8h_14 d9hvals_14 b8c0_14n b8c1_14n
  go_wp2_with fail
  refine (implIsResponse_any _ l0 _ _ l1 _ _ l2 _ x3 _ _ _ l4 _ _ (ints.below' d6h_15 ?_) (meths.below' d7h_15 ?_) (facts.below' d8h_15 ?_) (ints.below' d9hvals_15 ?_) (facts.below' d10h_15 ?_) nl2 nl2i).mono ?_
  · (repeat (first | exact Below.refl _ _ | refine ba ?_ | refine bdr ?_ | refine bs ?_ (by simp)))
  · (repeat (first | exact Below.refl _ _ | refine ba ?_ | refine bdr ?_ | refine bs ?_ (by simp)))
  · (repeat (first | exact Below.refl _ _ | refine ba ?_ | refine bdr ?_ | refine bs ?_ (by simp)))
  · (repeat (first | exact Below.refl _ _ | refine ba ?_ | refine bdr ?_ | refine bs ?_ (by simp)))
  · (repeat (first | exact Below.refl _ _ | refine ba ?_ | refine bdr ?_ | refine bs ?_ (by simp)))
  rintro e w16 ⟨rfl, hb16⟩
  have D16 : Below w15.heap.size w15 w16 := bt (by (repeat (first | exact Below.refl _ _ | refine ba ?_ | refine bdr ?_ | refine bs ?_ (by simp)))) hb16
  have B16 : Below w.heap.size w w16 := bt B15 D16
  have b8c0_16 : w16.cell? ⟨w.heap.size, 0, none⟩ = some (.int .i64 x3.meth) := cell_below b8c0_15 D16
  have b8c1_16 : w16.cell? ⟨w.heap.size, 1, none⟩ = some ((.slice p3vals x3.vals.length q3vals)) := cell_below b8c1_15 D16
  have b16c0_16 : w16.cell? ⟨w14.heap.size, 0, none⟩ = some (.int .i64 x3.meth) := cell_below b16c0_15 D16
  have b16c1_16 : w16.cell? ⟨w14.heap.size, 1, none⟩ = some ((.slice d9avals x3.vals.length d9cvals)) := cell_below b16c1_15 D16
  have d6h_16 := d6h_15.below' D16
  have d7h_16 := d7h_15.below' D16
  have d8h_16 := d8h_15.below' D16
  have d9hvals_16 := d9hvals_15.below' D16
  have d10h_16 := d10h_15.below' D16
  clear b8c0_15 b8c1_15 b16c0_15 b16c1_15 d6h_15 d7h_15 d8h_15 d9hvals_15 d10h_15
  go_wp2_with fail
  refine (toIntS_any _ l0 _ (intsV.below' g0 ?_) n0).mono ?_
  · (repeat (first | exact B16 | refine ba ?_ | refine bdr ?_ | refine bs ?_ (by simp)))
  rintro e w17 ⟨d11v, d11f, rfl, d11h_17, d11fr, hb17⟩
  obtain ⟨d11a, d11c, rfl⟩ := slR.form d11h_17
  have D17 : Below w16.heap.size w16 w17 := bt (by (repeat (first | exact Below.refl _ _ | refine ba ?_ | refine bdr ?_ | refine bs ?_ (by simp)))) hb17
  have B17 : Below w.heap.size w w17 := bt B16 D17
  have b8c0_17 : w17.cell? ⟨w.heap.size, 0, none⟩ = some (.int .i64 x3.meth) := cell_below b8c0_16 D17
  have b8c1_17 : w17.cell? ⟨w.heap.size, 1, none⟩ = some ((.slice p3vals x3.vals.length q3vals)) := cell_below b8c1_16 D17
  have b16c0_17 : w17.cell? ⟨w14.heap.size, 0, none⟩ = some (.int .i64 x3.meth) := cell_below b16c0_16 D17
  have b16c1_17 : w17.cell? ⟨w14.heap.size, 1, none⟩ = some ((.slice d9avals x3.vals.length d9cvals)) := cell_below b16c1_16 D17
  have d6h_17 := d6h_16.below' D17
  have d7h_17 := d7h_16.below' D17
  have d8h_17 := d8h_16.below' D17
  have d9hvals_17 := d9hvals_16.below' D17
  have d10h_17 := d10h_16.below' D17
  clear b8c0_16 b8c1_16 b16c0_16 b16c1_16 d6h_16 d7h_16 d8h_16 d9hvals_16 d10h_16
  go_wp2_with fail
  refine (eqIntS_any _ _ l0 l0 _ _ _ (ints.below' d6h_17 ?_) (ints.below' d11h_17 ?_)).mono ?_
  · (repeat (first | exact Below.refl _ _ | refine ba ?_ | refine bdr ?_ | refine bs ?_ (by simp)))
  · (repeat (first | exact Below.refl _ _ | refine ba ?_ | refine bdr ?_ | refine bs ?_ (by simp)))
  rintro e w18 ⟨rfl, hb18⟩
  have D18 : Below w17.heap.size w17 w18 := bt (by (repeat (first | exact Below.refl _ _ | refine ba ?_ | refine bdr ?_ | refine bs ?_ (by simp)))) hb18
  have B18 : Below w.heap.size w w18 := bt B17 D18
  have b8c0_18 : w18.cell? ⟨w.heap.size, 0, none⟩ = some (.int .i64 x3.meth) := cell_below b8c0_17 D18
  have b8c1_18 : w18.cell? ⟨w.heap.size, 1, none⟩ = some ((.slice p3vals x3.vals.length q3vals)) := cell_below b8c1_17 D18
  have b16c0_18 : w18.cell? ⟨w14.heap.size, 0, none⟩ = some (.int .i64 x3.meth) := cell_below b16c0_17 D18
  have b16c1_18 : w18.cell? ⟨w14.heap.size, 1, none⟩ = some ((.slice d9avals x3.vals.length d9cvals)) := cell_below b16c1_17 D18
  have d7h_18 := d7h_17.below' D18
  have d8h_18 := d8h_17.below' D18
  have d9hvals_18 := d9hvals_17.below' D18
  have d10h_18 := d10h_17.below' D18
  clear b8c0_17 b8c1_17 b16c0_17 b16c1_17 d6h_17 d7h_17 d8h_17 d9hvals_17 d10h_17 d11h_17
  go_wp2_with fail
  refine (toMethodS_any _ l1 _ (methsV.below' g1 ?_) nl1 nl1i).mono ?_
  · (repeat (first | exact B18 | refine ba ?_ | refine bdr ?_ | refine bs ?_ (by simp)))
  rintro e w19 ⟨d12v, d12f, rfl, d12h_19, d12fr, hb19⟩
  obtain ⟨d12a, d12c, rfl⟩ := slR.form d12h_19
  have D19 : Below w18.heap.size w18 w19 := bt (by (repeat (first | exact Below.refl _ _ | refine ba ?_ | refine bdr ?_ | refine bs ?_ (by simp)))) hb19
  have B19 : Below w.heap.size w w19 := bt B18 D19
  have b8c0_19 : w19.cell? ⟨w.heap.size, 0, none⟩ = some (.int .i64 x3.meth) := cell_below b8c0_18 D19
  have b8c1_19 : w19.cell? ⟨w.heap.size, 1, none⟩ = some ((.slice p3vals x3.vals.length q3vals)) := cell_below b8c1_18 D19
  have b16c0_19 : w19.cell? ⟨w14.heap.size, 0, none⟩ = some (.int .i64 x3.meth) := cell_below b16c0_18 D19
  have b16c1_19 : w19.cell? ⟨w14.heap.size, 1, none⟩ = some ((.slice d9avals x3.vals.length d9cvals)) := cell_below b16c1_18 D19
  have d7h_19 := d7h_18.below' D19
  have d8h_19 := d8h_18.below' D19
  have d9hvals_19 := d9hvals_18.below' D19
  have d10h_19 := d10h_18.below' D19
  clear b8c0_18 b8c1_18 b16c0_18 b16c1_18 d7h_18 d8h_18 d9hvals_18 d10h_18
  go_wp2_with fail
  refine (eqMethodS_any _ _ l1 l1 _ _ _ (meths.below' d7h_19 ?_) (meths.below' d12h_19 ?_)).mono ?_
  · (repeat (first | exact Below.refl _ _ | refine ba ?_ | refine bdr ?_ | refine bs ?_ (by simp)))
  · (repeat (first | exact Below.refl _ _ | refine ba ?_ | refine bdr ?_ | refine bs ?_ (by simp)))
  rintro e w20 ⟨rfl, hb20⟩
  have D20 : Below w19.heap.size w19 w20 := bt (by (repeat (first | exact Below.refl _ _ | refine ba ?_ | refine bdr ?_ | refine bs ?_ (by simp)))) hb20
  have B20 : Below w.heap.size w w20 := bt B19 D20
  have b8c0_20 : w20.cell? ⟨w.heap.size, 0, none⟩ = some (.int .i64 x3.meth) := cell_below b8c0_19 D20
  have b8c1_20 : w20.cell? ⟨w.heap.size, 1, none⟩ = some ((.slice p3vals x3.vals.length q3vals)) := cell_below b8c1_19 D20
  have b16c0_20 : w20.cell? ⟨w14.heap.size, 0, none⟩ = some (.int .i64 x3.meth) := cell_below b16c0_19 D20
  have b16c1_20 : w20.cell? ⟨w14.heap.size, 1, none⟩ = some ((.slice d9avals x3.vals.length d9cvals)) := cell_below b16c1_19 D20
  have d8h_20 := d8h_19.below' D20
  have d9hvals_20 := d9hvals_19.below' D20
  have d10h_20 := d10h_19.below' D20
  clear b8c0_19 b8c1_19 b16c0_19 b16c1_19 d7h_19 d8h_19 d9hvals_19 d10h_19 d12h_19
  go_wp2_with fail
  refine (toFactS_any _ l2 _ (factsV.below' g2 ?_) nl2 nl2i).mono ?_
  · (repeat (first | exact B20 | refine ba ?_ | refine bdr ?_ | refine bs ?_ (by simp)))
  rintro e w21 ⟨d13v, d13f, rfl, d13h_21, d13fr, hb21⟩
  obtain ⟨d13a, d13c, rfl⟩ := slR.form d13h_21
  have D21 : Below w20.heap.size w20 w21 := bt (by (repeat (first | exact Below.refl _ _ | refine ba ?_ | refine bdr ?_ | refine bs ?_ (by simp)))) hb21
  have B21 : Below w.heap.size w w21 := bt B20 D21
  have b8c0_21 : w21.cell? ⟨w.heap.size, 0, none⟩ = some (.int .i64 x3.meth) := cell_below b8c0_20 D21
  have b8c1_21 : w21.cell? ⟨w.heap.size, 1, none⟩ = some ((.slice p3vals x3.vals.length q3vals)) := cell_below b8c1_20 D21
  have b16c0_21 : w21.cell? ⟨w14.heap.size, 0, none⟩ = some (.int .i64 x3.meth) := cell_below b16c0_20 D21
  have b16c1_21 : w21.cell? ⟨w14.heap.size, 1, none⟩ = some ((.slice d9avals x3.vals.length d9cvals)) := cell_below b16c1_20 D21
  have d8h_21 := d8h_20.below' D21
  have d9hvals_21 := d9hvals_20.below' D21
  have d10h_21 := d10h_20.below' D21
  clear b8c0_20 b8c1_20 b16c0_20 b16c1_20 d8h_20 d9hvals_20 d10h_20
  go_wp2_with fail
  refine (eqFactS_any _ _ l2 l2 _ _ _ (facts.below' d8h_21 ?_) (facts.below' d13h_21 ?_)).mono ?_
  · (repeat (first | exact Below.refl _ _ | refine ba ?_ | refine bdr ?_ | refine bs ?_ (by simp)))
  · (repeat (first | exact Below.refl _ _ | refine ba ?_ | refine bdr ?_ | refine bs ?_ (by simp)))
  rintro e w22 ⟨rfl, hb22⟩
  have D22 : Below w21.heap.size w21 w22 := bt (by (repeat (first | exact Below.refl _ _ | refine ba ?_ | refine bdr ?_ | refine bs ?_ (by simp)))) hb22
  have B22 : Below w.heap.size w w22 := bt B21 D22
  have b8c0_22 : w22.cell? ⟨w.heap.size, 0, none⟩ = some (.int .i64 x3.meth) := cell_below b8c0_21 D22
  have b8c1_22 : w22.cell? ⟨w.heap.size, 1, none⟩ = some ((.slice p3vals x3.vals.length q3vals)) := cell_below b8c1_21 D22
  have b16c0_22 : w22.cell? ⟨w14.heap.size, 0, none⟩ = some (.int .i64 x3.meth) := cell_below b16c0_21 D22
  have b16c1_22 : w22.cell? ⟨w14.heap.size, 1, none⟩ = some ((.slice d9avals x3.vals.length d9cvals)) := cell_below b16c1_21 D22
  have d9hvals_22 := d9hvals_21.below' D22
  have d10h_22 := d10h_21.below' D22
  clear b8c0_21 b8c1_21 b16c0_21 b16c1_21 d8h_21 d9hvals_21 d10h_21 d13h_21
  go_wp2_with fail
  go_region_held3 (fun w' => w'.cell? ⟨w14.heap.size, 0, none⟩ = some (.int .i64 x3.meth) ∧ w'.cell? ⟨w14.heap.size, 1, none⟩ = some ((.slice d9avals x3.vals.length d9cvals)) ∧ w'.cell? ⟨w.heap.size, 0, none⟩ = some (.int .i64 x3.meth) ∧ w'.cell? ⟨w.heap.size, 1, none⟩ = some ((.slice p3vals x3.vals.length q3vals))) (first | exact ⟨b16c0_22, b16c1_22, b8c0_22, b8c1_22⟩ | exact ⟨b16c0_23, b16c1_23, b8c0_23, b8c1_23⟩ | exact ⟨b16c0_24, b16c1_24, b8c0_24, b8c1_24⟩)
    (first
      | (go_at_call 56
         with_reducible refine (toAccess_any x3 _ _ (intsV.below' h3vals ?_) nx3vals).mono ?_
         · (repeat (first | exact B22 | refine ba ?_ | refine bdr ?_ | refine bs ?_ (by simp)))
         rintro e w23 ⟨d14vvals, d14fvals, rfl, d14hvals_23, d14fr, hb23⟩
         obtain ⟨d14avals, d14cvals, rfl⟩ := slR.form d14hvals_23
         have D23 : Below w22.heap.size w22 w23 := bt (by (repeat (first | exact Below.refl _ _ | refine ba ?_ | refine bdr ?_ | refine bs ?_ (by simp)))) hb23
         have B23 : Below w.heap.size w w23 := bt B22 D23
         have b8c0_23 : w23.cell? ⟨w.heap.size, 0, none⟩ = some (.int .i64 x3.meth) := cell_below b8c0_22 D23
         have b8c1_23 : w23.cell? ⟨w.heap.size, 1, none⟩ = some ((.slice p3vals x3.vals.length q3vals)) := cell_below b8c1_22 D23
         have b16c0_23 : w23.cell? ⟨w14.heap.size, 0, none⟩ = some (.int .i64 x3.meth) := cell_below b16c0_22 D23
         have b16c1_23 : w23.cell? ⟨w14.heap.size, 1, none⟩ = some ((.slice d9avals x3.vals.length d9cvals)) := cell_below b16c1_22 D23
         have d9hvals_23 := d9hvals_22.below' D23
         have d10h_23 := d10h_22.below' D23)
      | (go_at_call 59
         with_reducible refine (eqAccess_any x3 x3 _ _ _ _ _ (ints.below' d9hvals_23 ?_) (ints.below' d14hvals_23 ?_)).mono ?_
         · (repeat (first | exact Below.refl _ _ | refine ba ?_ | refine bdr ?_ | refine bs ?_ (by simp)))
         · (repeat (first | exact Below.refl _ _ | refine ba ?_ | refine bdr ?_ | refine bs ?_ (by simp)))
         rintro e w24 ⟨rfl, hb24⟩
         have D24 : Below w23.heap.size w23 w24 := bt (by (repeat (first | exact Below.refl _ _ | refine ba ?_ | refine bdr ?_ | refine bs ?_ (by simp)))) hb24
         have B24 : Below w.heap.size w w24 := bt B23 D24
         have b8c0_24 : w24.cell? ⟨w.heap.size, 0, none⟩ = some (.int .i64 x3.meth) := cell_below b8c0_23 D24
         have b8c1_24 : w24.cell? ⟨w.heap.size, 1, none⟩ = some ((.slice p3vals x3.vals.length q3vals)) := cell_below b8c1_23 D24
         have b16c0_24 : w24.cell? ⟨w14.heap.size, 0, none⟩ = some (.int .i64 x3.meth) := cell_below b16c0_23 D24
         have b16c1_24 : w24.cell? ⟨w14.heap.size, 1, none⟩ = some ((.slice d9avals x3.vals.length d9cvals)) := cell_below b16c1_23 D24
         have d10h_24 := d10h_23.below' D24))
  clear b8c0_22 b8c1_22 b16c0_22 b16c1_22 d9hvals_22 d10h_22 b8c0_23 b8c1_23 b16c0_23 b16c1_23 d9hvals_23 d10h_23 d14hvals_23
  go_wp2_with fail
  refine (toFactS_any _ l4 _ (factsV.below' g4 ?_) nl4 nl4i).mono ?_
  · (repeat (first | exact B24 | refine ba ?_ | refine bdr ?_ | refine bs ?_ (by simp)))
  rintro e w25 ⟨d15v, d15f, rfl, d15h_25, d15fr, hb25⟩
  obtain ⟨d15a, d15c, rfl⟩ := slR.form d15h_25
  have D25 : Below w24.heap.size w24 w25 := bt (by (repeat (first | exact Below.refl _ _ | refine ba ?_ | refine bdr ?_ | refine bs ?_ (by simp)))) hb25
  have B25 : Below w.heap.size w w25 := bt B24 D25
  have d10h_25 := d10h_24.below' D25
  clear b8c0_24 b8c1_24 b16c0_24 b16c1_24 d10h_24
  go_wp2_with fail
  refine (eqFactS_any _ _ l4 l4 _ _ _ (facts.below' d10h_25 ?_) (facts.below' d15h_25 ?_)).mono ?_
  · (repeat (first | exact Below.refl _ _ | refine ba ?_ | refine bdr ?_ | refine bs ?_ (by simp)))
  · (repeat (first | exact Below.refl _ _ | refine ba ?_ | refine bdr ?_ | refine bs ?_ (by simp)))
  rintro e w26 ⟨rfl, hb26⟩
  have D26 : Below w25.heap.size w25 w26 := bt (by (repeat (first | exact Below.refl _ _ | refine ba ?_ | refine bdr ?_ | refine bs ?_ (by simp)))) hb26
  have B26 : Below w.heap.size w w26 := bt B25 D26
  clear d10h_25 d15h_25
  go_wp2
  go_ret
  exact ⟨rfl, B26⟩
end Go.Proofs.Ytjjkfhjkfoikbaa
