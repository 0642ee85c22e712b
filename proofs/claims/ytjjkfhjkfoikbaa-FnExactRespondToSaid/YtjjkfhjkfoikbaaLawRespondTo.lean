/- The walk of the law FnExactRespondTo: it returns true, whatever the input. -/
import Derived.Test.YtjjkfhjkfoikbaaRespT
import Derived.Test.YtjjkfhjkfoikbaaRespB
import Derived.Test.YtjjkfhjkfoikbaaHAcc
import Derived.Test.YtjjkfhjkfoikbaaFacts0
namespace Go.Proofs.Ytjjkfhjkfoikbaa
open Go.RowKit
set_option linter.unusedVariables false
set_option linter.unusedSimpArgs false
set_option maxRecDepth 100000 in
set_option maxHeartbeats 8000000 in
theorem fnExactRespondTo_walk (v0 : Value) (l0 : List Int) (v1 : Value) (l1 : List MethD) (v2 : Value) (l2 : List FactD) (cs3 : List Value) (x3 : AccD) (a4 : Int) (w : World) (g0 : intsV w v0 l0) (g1 : methsV w v1 l1) (g2 : factsV w v2 l2) (g3 : accW w cs3 x3)  :
    Calls Try.prog 9 #[v0, v1, v2, .agg cs3.toArray, .int .i64 a4] w fun e w' => e = .returned (.bool true) ∧ Below w.heap.size w w' := by
  obtain ⟨p0, q0, rfl⟩ := slW.form g0
  obtain ⟨p1, q1, rfl⟩ := slW.form g1
  obtain ⟨p2, q2, rfl⟩ := slW.form g2
  obtain ⟨v3vals, rfl, i3meth, h3vals⟩ := g3
  obtain ⟨p3vals, q3vals, rfl⟩ := slW.form h3vals
  have b8c0_0 : (w.alloc (.cells #[.int .i64 x3.meth, (.slice p3vals x3.vals.length q3vals)] 81)).cell? ⟨w.heap.size, 0, none⟩ = some (.int .i64 x3.meth) := cell_new w _ _ 0 _ rfl
  have b8c1_0 : (w.alloc (.cells #[.int .i64 x3.meth, (.slice p3vals x3.vals.length q3vals)] 81)).cell? ⟨w.heap.size, 1, none⟩ = some ((.slice p3vals x3.vals.length q3vals)) := cell_new w _ _ 1 _ rfl
  by_cases n0 : l0.length ≤ 1048576
  case neg =>
    go_enter Try.func9, Try.ntmps9
    go_wp2
    go_ret
    exact ⟨rfl, by (repeat (first | exact Below.refl _ _ | refine ba ?_ | refine bdr ?_ | refine bs ?_ (by simp)))⟩
  have rr : decide (respondL l0 l1 l2 x3 a4 = respondL l0 l1 l2 x3 a4) = true := by simp
  have rd0 : decide (l0 = l0) = true := by simp
  have rd1 : decide (l1 = l1) = true := by simp
  have rd2 : decide (l2 = l2) = true := by simp
  have rd3 : decide (x3 = x3) = true := by simp
  go_enter Try.func9, Try.ntmps9
  go_wp2_with fail
  refine (szMethodS_any _ l1 (1048576) _ (methsV.below' g1 ?_) ⟨by omega, by omega⟩).mono ?_
  · (repeat (first | exact Below.refl _ _ | refine ba ?_ | refine bdr ?_ | refine bs ?_ (by simp)))
  rintro e w1 ⟨rfl, hb1⟩
  have D1 : Below w.heap.size w w1 := bt (by (repeat (first | exact Below.refl _ _ | refine ba ?_ | refine bdr ?_ | refine bs ?_ (by simp)))) hb1
  have B1 : Below w.heap.size w w1 := D1
  have b8c0_1 : w1.cell? ⟨w.heap.size, 0, none⟩ = some (.int .i64 x3.meth) := cell_below (b8c0_0) hb1
  have b8c1_1 : w1.cell? ⟨w.heap.size, 1, none⟩ = some ((.slice p3vals x3.vals.length q3vals)) := cell_below (b8c1_0) hb1
  clear b8c0_0 b8c1_0
  rcases left_cases (bulkMethodS l1) (1048576) (by omega) with ⟨t0, t1⟩ | ⟨t0, t1⟩
  case inl =>
    have T1 := Lib.hid t1; clear t1
    go_wp2
    go_ret
    exact ⟨rfl, B1⟩
  have T1 := Lib.hid t1; clear t1
  obtain ⟨ql1, el11, el12⟩ := left_bd t0 (by omega) (by omega)
  clear t0
  have nl1 : l1.length ≤ 1048576 := by have h9 := ql1; unfold bulkMethodS at h9; omega
  have nl1i : ∀ y ∈ l1, y.inputs.length ≤ 1048576 := fun y hy => by have h9 := ql1; unfold bulkMethodS at h9; have h8 := sum_ge_mem (f := fun x => bulkMethod x) hy; unfold bulkMethod at h8 h9; omega
  have nC1 : (l1.map cntMethod).sum ≤ 5242880 := cntMethodS_bulk ql1
  go_wp2_with fail
  refine (szFactS_any _ l2 (left (bulkMethodS l1) (1048576)) _ (factsV.below' g2 ?_) ⟨by omega, by omega⟩).mono ?_
  · (repeat (first | exact B1 | refine ba ?_ | refine bdr ?_ | refine bs ?_ (by simp)))
  rintro e w2 ⟨rfl, hb2⟩
  have D2 : Below w1.heap.size w1 w2 := bt (by (repeat (first | exact Below.refl _ _ | refine ba ?_ | refine bdr ?_ | refine bs ?_ (by simp)))) hb2
  have B2 : Below w.heap.size w w2 := bt B1 D2
  have b8c0_2 : w2.cell? ⟨w.heap.size, 0, none⟩ = some (.int .i64 x3.meth) := cell_below b8c0_1 D2
  have b8c1_2 : w2.cell? ⟨w.heap.size, 1, none⟩ = some ((.slice p3vals x3.vals.length q3vals)) := cell_below b8c1_1 D2
  clear b8c0_1 b8c1_1
  rcases left_cases (bulkFactS l2) (left (bulkMethodS l1) (1048576)) (by omega) with ⟨t0, t1⟩ | ⟨t0, t1⟩
  case inl =>
    have T1 := Lib.hid t1; clear t1
    go_wp2
    go_ret
    exact ⟨rfl, B2⟩
  have T2 := Lib.hid t1; clear t1
  obtain ⟨ql2, el21, el22⟩ := left_bd t0 (by omega) (by omega)
  clear t0
  have nl2 : l2.length ≤ 1048576 := by have h9 := ql2; unfold bulkFactS at h9; omega
  have nl2i : ∀ y ∈ l2, y.vals.length ≤ 1048576 := fun y hy => by have h9 := ql2; unfold bulkFactS at h9; have h8 := sum_ge_mem (f := fun x => bulkFact x) hy; unfold bulkFact at h8 h9; omega
  have nC2 : (l2.map cntFact).sum ≤ 1048576 := cntFactS_bulk ql2
  go_wp2_with fail
  refine (szAccess_any x3 _ (left (bulkFactS l2) (left (bulkMethodS l1) (1048576))) _ (intsV.below' h3vals ?_) ⟨by omega, by omega⟩).mono ?_
  · (repeat (first | exact B2 | refine ba ?_ | refine bdr ?_ | refine bs ?_ (by simp)))
  rintro e w3 ⟨rfl, hb3⟩
  have D3 : Below w2.heap.size w2 w3 := bt (by (repeat (first | exact Below.refl _ _ | refine ba ?_ | refine bdr ?_ | refine bs ?_ (by simp)))) hb3
  have B3 : Below w.heap.size w w3 := bt B2 D3
  have b8c0_3 : w3.cell? ⟨w.heap.size, 0, none⟩ = some (.int .i64 x3.meth) := cell_below b8c0_2 D3
  have b8c1_3 : w3.cell? ⟨w.heap.size, 1, none⟩ = some ((.slice p3vals x3.vals.length q3vals)) := cell_below b8c1_2 D3
  clear b8c0_2 b8c1_2
  rcases left_cases (bulkAccess x3) (left (bulkFactS l2) (left (bulkMethodS l1) (1048576))) (by omega) with ⟨t0, t1⟩ | ⟨t0, t1⟩
  case inl =>
    have T1 := Lib.hid t1; clear t1
    go_wp2
    go_ret
    exact ⟨rfl, B3⟩
  have T3 := Lib.hid t1; clear t1
  obtain ⟨qx3, ex31, ex32⟩ := left_bd t0 (by omega) (by omega)
  clear t0
  have nx3vals : x3.vals.length ≤ 1048576 := by have h9 := qx3; unfold bulkAccess at h9; omega
  have nR : ((respondL l0 l1 l2 x3 a4).map cntFact).sum ≤ 10000000 := respondL_cnt ql2
  go_wp2_with fail
  go_region_held3 (fun w' => w'.cell? ⟨w.heap.size, 0, none⟩ = some (.int .i64 x3.meth) ∧ w'.cell? ⟨w.heap.size, 1, none⟩ = some ((.slice p3vals x3.vals.length q3vals))) (first | exact ⟨b8c0_3, b8c1_3⟩ | exact ⟨b8c0_4, b8c1_4⟩ | exact ⟨b8c0_5, b8c1_5⟩ | exact ⟨b8c0_6, b8c1_6⟩ | exact ⟨b8c0_7, b8c1_7⟩ | exact ⟨b8c0_8, b8c1_8⟩)
    (first
      | (go_at_call 29
         with_reducible refine (toIntS_any _ l0 _ (intsV.below' g0 ?_) n0).mono ?_
         · (repeat (first | exact B3 | refine ba ?_ | refine bdr ?_ | refine bs ?_ (by simp)))
         rintro e w4 ⟨d1v, d1f, rfl, d1h_4, d1fr, hb4⟩
         obtain ⟨d1a, d1c, rfl⟩ := slR.form d1h_4
         have D4 : Below w3.heap.size w3 w4 := bt (by (repeat (first | exact Below.refl _ _ | refine ba ?_ | refine bdr ?_ | refine bs ?_ (by simp)))) hb4
         have B4 : Below w.heap.size w w4 := bt B3 D4
         have b8c0_4 : w4.cell? ⟨w.heap.size, 0, none⟩ = some (.int .i64 x3.meth) := cell_below b8c0_3 D4
         have b8c1_4 : w4.cell? ⟨w.heap.size, 1, none⟩ = some ((.slice p3vals x3.vals.length q3vals)) := cell_below b8c1_3 D4)
      | (go_at_call 55
         with_reducible refine (toMethodS_any _ l1 _ (methsV.below' g1 ?_) nl1 nl1i).mono ?_
         · (repeat (first | exact B4 | refine ba ?_ | refine bdr ?_ | refine bs ?_ (by simp)))
         rintro e w5 ⟨d2v, d2f, rfl, d2h_5, d2fr, hb5⟩
         obtain ⟨d2a, d2c, rfl⟩ := slR.form d2h_5
         have D5 : Below w4.heap.size w4 w5 := bt (by (repeat (first | exact Below.refl _ _ | refine ba ?_ | refine bdr ?_ | refine bs ?_ (by simp)))) hb5
         have B5 : Below w.heap.size w w5 := bt B4 D5
         have b8c0_5 : w5.cell? ⟨w.heap.size, 0, none⟩ = some (.int .i64 x3.meth) := cell_below b8c0_4 D5
         have b8c1_5 : w5.cell? ⟨w.heap.size, 1, none⟩ = some ((.slice p3vals x3.vals.length q3vals)) := cell_below b8c1_4 D5
         have d1h_5 := d1h_4.below' D5)
      | (go_at_call 40
         with_reducible refine (toFactS_any _ l2 _ (factsV.below' g2 ?_) nl2 nl2i).mono ?_
         · (repeat (first | exact B5 | refine ba ?_ | refine bdr ?_ | refine bs ?_ (by simp)))
         rintro e w6 ⟨d3v, d3f, rfl, d3h_6, d3fr, hb6⟩
         obtain ⟨d3a, d3c, rfl⟩ := slR.form d3h_6
         have D6 : Below w5.heap.size w5 w6 := bt (by (repeat (first | exact Below.refl _ _ | refine ba ?_ | refine bdr ?_ | refine bs ?_ (by simp)))) hb6
         have B6 : Below w.heap.size w w6 := bt B5 D6
         have b8c0_6 : w6.cell? ⟨w.heap.size, 0, none⟩ = some (.int .i64 x3.meth) := cell_below b8c0_5 D6
         have b8c1_6 : w6.cell? ⟨w.heap.size, 1, none⟩ = some ((.slice p3vals x3.vals.length q3vals)) := cell_below b8c1_5 D6
         have d1h_6 := d1h_5.below' D6
         have d2h_6 := d2h_5.below' D6)
      | (go_at_call 56
         with_reducible refine (toAccess_any x3 _ _ (intsV.below' h3vals ?_) nx3vals).mono ?_
         · (repeat (first | exact B6 | refine ba ?_ | refine bdr ?_ | refine bs ?_ (by simp)))
         rintro e w7 ⟨d4vvals, d4fvals, rfl, d4hvals_7, d4fr, hb7⟩
         obtain ⟨d4avals, d4cvals, rfl⟩ := slR.form d4hvals_7
         have D7 : Below w6.heap.size w6 w7 := bt (by (repeat (first | exact Below.refl _ _ | refine ba ?_ | refine bdr ?_ | refine bs ?_ (by simp)))) hb7
         have B7 : Below w.heap.size w w7 := bt B6 D7
         have b8c0_7 : w7.cell? ⟨w.heap.size, 0, none⟩ = some (.int .i64 x3.meth) := cell_below b8c0_6 D7
         have b8c1_7 : w7.cell? ⟨w.heap.size, 1, none⟩ = some ((.slice p3vals x3.vals.length q3vals)) := cell_below b8c1_6 D7
         have d1h_7 := d1h_6.below' D7
         have d2h_7 := d2h_6.below' D7
         have d3h_7 := d3h_6.below' D7)
      | (go_at_call 64
         with_reducible refine (specRespondTo_any _ l0 _ _ l1 _ _ l2 _ x3 _ _ a4 _ (ints.below' d1h_7 ?_) (meths.below' d2h_7 ?_) (facts.below' d3h_7 ?_) (ints.below' d4hvals_7 ?_) nl2 nl2i).mono ?_
         · (repeat (first | exact Below.refl _ _ | refine ba ?_ | refine bdr ?_ | refine bs ?_ (by simp)))
         · (repeat (first | exact Below.refl _ _ | refine ba ?_ | refine bdr ?_ | refine bs ?_ (by simp)))
         · (repeat (first | exact Below.refl _ _ | refine ba ?_ | refine bdr ?_ | refine bs ?_ (by simp)))
         · (repeat (first | exact Below.refl _ _ | refine ba ?_ | refine bdr ?_ | refine bs ?_ (by simp)))
         rintro e w8 ⟨d5v, d5f, rfl, d5h_8, d5fr, hb8⟩
         obtain ⟨d5a, d5c, rfl⟩ := slR.form d5h_8
         have D8 : Below w7.heap.size w7 w8 := bt (by (repeat (first | exact Below.refl _ _ | refine ba ?_ | refine bdr ?_ | refine bs ?_ (by simp)))) hb8
         have B8 : Below w.heap.size w w8 := bt B7 D8
         have b8c0_8 : w8.cell? ⟨w.heap.size, 0, none⟩ = some (.int .i64 x3.meth) := cell_below b8c0_7 D8
         have b8c1_8 : w8.cell? ⟨w.heap.size, 1, none⟩ = some ((.slice p3vals x3.vals.length q3vals)) := cell_below b8c1_7 D8))
  clear b8c0_3 b8c1_3 b8c0_4 b8c1_4 d1h_4 b8c0_5 b8c1_5 d1h_5 d2h_5 b8c0_6 b8c1_6 d1h_6 d2h_6 d3h_6 b8c0_7 b8c1_7 d1h_7 d2h_7 d3h_7 d4hvals_7
  go_wp2_with fail
  refine (toIntS_any _ l0 _ (intsV.below' g0 ?_) n0).mono ?_
  · (repeat (first | exact B8 | refine ba ?_ | refine bdr ?_ | refine bs ?_ (by simp)))
  rintro e w9 ⟨d6v, d6f, rfl, d6h_9, d6fr, hb9⟩
  obtain ⟨d6a, d6c, rfl⟩ := slR.form d6h_9
  have d6F : Fresh w8.heap.size (d6f) := d6fr.mono (Below.size (B := w8.heap.size) (by (repeat (first | exact Below.refl _ _ | refine ba ?_ | refine bdr ?_ | refine bs ?_ (by simp)))))
  have Xd5f_d6 : ∀ g ∈ d5f, g ∉ d6f := fun g hg => d6F.notin (d5h_8.lt g hg)
  have d6L : ∀ g ∈ d6f, w.heap.size ≤ g := fun g hg => Nat.le_trans (Below.size B8) (d6F.2 g hg)
  have Nb8_d6 : w.heap.size ∉ d6f := d6F.notin (lt_of_cell b8c0_8)
  have D9 : Below w8.heap.size w8 w9 := bt (by (repeat (first | exact Below.refl _ _ | refine ba ?_ | refine bdr ?_ | refine bs ?_ (by simp)))) hb9
  have B9 : Below w.heap.size w w9 := bt B8 D9
  have b8c0_9 : w9.cell? ⟨w.heap.size, 0, none⟩ = some (.int .i64 x3.meth) := cell_below b8c0_8 D9
  have b8c1_9 : w9.cell? ⟨w.heap.size, 1, none⟩ = some ((.slice p3vals x3.vals.length q3vals)) := cell_below b8c1_8 D9
  have d5h_9 := d5h_8.below' D9
  clear b8c0_8 b8c1_8 d5h_8
  go_wp2_with fail
  refine (toMethodS_any _ l1 _ (methsV.below' g1 ?_) nl1 nl1i).mono ?_
  · (repeat (first | exact B9 | refine ba ?_ | refine bdr ?_ | refine bs ?_ (by simp)))
  rintro e w10 ⟨d7v, d7f, rfl, d7h_10, d7fr, hb10⟩
  obtain ⟨d7a, d7c, rfl⟩ := slR.form d7h_10
  have d7F : Fresh w9.heap.size (d7f) := d7fr.mono (Below.size (B := w9.heap.size) (by (repeat (first | exact Below.refl _ _ | refine ba ?_ | refine bdr ?_ | refine bs ?_ (by simp)))))
  have Xd5f_d7 : ∀ g ∈ d5f, g ∉ d7f := fun g hg => d7F.notin (d5h_9.lt g hg)
  have Xd6f_d7 : ∀ g ∈ d6f, g ∉ d7f := fun g hg => d7F.notin (d6h_9.lt g hg)
  have d7L : ∀ g ∈ d7f, w.heap.size ≤ g := fun g hg => Nat.le_trans (Below.size B9) (d7F.2 g hg)
  have Nb8_d7 : w.heap.size ∉ d7f := d7F.notin (lt_of_cell b8c0_9)
  have D10 : Below w9.heap.size w9 w10 := bt (by (repeat (first | exact Below.refl _ _ | refine ba ?_ | refine bdr ?_ | refine bs ?_ (by simp)))) hb10
  have B10 : Below w.heap.size w w10 := bt B9 D10
  have b8c0_10 : w10.cell? ⟨w.heap.size, 0, none⟩ = some (.int .i64 x3.meth) := cell_below b8c0_9 D10
  have b8c1_10 : w10.cell? ⟨w.heap.size, 1, none⟩ = some ((.slice p3vals x3.vals.length q3vals)) := cell_below b8c1_9 D10
  have d5h_10 := d5h_9.below' D10
  have d6h_10 := d6h_9.below' D10
  clear b8c0_9 b8c1_9 d5h_9 d6h_9
  go_wp2_with fail
  refine (toFactS_any _ l2 _ (factsV.below' g2 ?_) nl2 nl2i).mono ?_
  · (repeat (first | exact B10 | refine ba ?_ | refine bdr ?_ | refine bs ?_ (by simp)))
  rintro e w11 ⟨d8v, d8f, rfl, d8h_11, d8fr, hb11⟩
  obtain ⟨d8a, d8c, rfl⟩ := slR.form d8h_11
  have d8F : Fresh w10.heap.size (d8f) := d8fr.mono (Below.size (B := w10.heap.size) (by (repeat (first | exact Below.refl _ _ | refine ba ?_ | refine bdr ?_ | refine bs ?_ (by simp)))))
  have Xd5f_d8 : ∀ g ∈ d5f, g ∉ d8f := fun g hg => d8F.notin (d5h_10.lt g hg)
  have Xd6f_d8 : ∀ g ∈ d6f, g ∉ d8f := fun g hg => d8F.notin (d6h_10.lt g hg)
  have Xd7f_d8 : ∀ g ∈ d7f, g ∉ d8f := fun g hg => d8F.notin (d7h_10.lt g hg)
  have d8L : ∀ g ∈ d8f, w.heap.size ≤ g := fun g hg => Nat.le_trans (Below.size B10) (d8F.2 g hg)
  have Nb8_d8 : w.heap.size ∉ d8f := d8F.notin (lt_of_cell b8c0_10)
  have D11 : Below w10.heap.size w10 w11 := bt (by (repeat (first | exact Below.refl _ _ | refine ba ?_ | refine bdr ?_ | refine bs ?_ (by simp)))) hb11
  have B11 : Below w.heap.size w w11 := bt B10 D11
  have b8c0_11 : w11.cell? ⟨w.heap.size, 0, none⟩ = some (.int .i64 x3.meth) := cell_below b8c0_10 D11
  have b8c1_11 : w11.cell? ⟨w.heap.size, 1, none⟩ = some ((.slice p3vals x3.vals.length q3vals)) := cell_below b8c1_10 D11
  have d5h_11 := d5h_10.below' D11
  have d6h_11 := d6h_10.below' D11
  have d7h_11 := d7h_10.below' D11
  clear b8c0_10 b8c1_10 d5h_10 d6h_10 d7h_10
  go_wp2_with fail
  refine (toAccess_any x3 _ _ (intsV.below' h3vals ?_) nx3vals).mono ?_
  · (repeat (first | exact B11 | refine ba ?_ | refine bdr ?_ | refine bs ?_ (by simp)))
  rintro e w12 ⟨d9vvals, d9fvals, rfl, d9hvals_12, d9fr, hb12⟩
  obtain ⟨d9avals, d9cvals, rfl⟩ := slR.form d9hvals_12
  have d9F : Fresh w11.heap.size (d9fvals) := d9fr.mono (Below.size (B := w11.heap.size) (by (repeat (first | exact Below.refl _ _ | refine ba ?_ | refine bdr ?_ | refine bs ?_ (by simp)))))
  have Xd5f_d9 : ∀ g ∈ d5f, g ∉ d9fvals := fun g hg => d9F.notin (d5h_11.lt g hg)
  have Xd6f_d9 : ∀ g ∈ d6f, g ∉ d9fvals := fun g hg => d9F.notin (d6h_11.lt g hg)
  have Xd7f_d9 : ∀ g ∈ d7f, g ∉ d9fvals := fun g hg => d9F.notin (d7h_11.lt g hg)
  have Xd8f_d9 : ∀ g ∈ d8f, g ∉ d9fvals := fun g hg => d9F.notin (d8h_11.lt g hg)
  have d9L : ∀ g ∈ d9fvals, w.heap.size ≤ g := fun g hg => Nat.le_trans (Below.size B11) (d9F.2 g hg)
  have Nb8_d9 : w.heap.size ∉ d9fvals := d9F.notin (lt_of_cell b8c0_11)
  have D12 : Below w11.heap.size w11 w12 := bt (by (repeat (first | exact Below.refl _ _ | refine ba ?_ | refine bdr ?_ | refine bs ?_ (by simp)))) hb12
  have B12 : Below w.heap.size w w12 := bt B11 D12
  have b8c0_12 : w12.cell? ⟨w.heap.size, 0, none⟩ = some (.int .i64 x3.meth) := cell_below b8c0_11 D12
  have b8c1_12 : w12.cell? ⟨w.heap.size, 1, none⟩ = some ((.slice p3vals x3.vals.length q3vals)) := cell_below b8c1_11 D12
  have d5h_12 := d5h_11.below' D12
  have d6h_12 := d6h_11.below' D12
  have d7h_12 := d7h_11.below' D12
  have d8h_12 := d8h_11.below' D12
  clear b8c0_11 b8c1_11 d5h_11 d6h_11 d7h_11 d8h_11
  have b8c0_12n := fun o => cell_al b8c0_12 o
  have b8c1_12n := fun o => cell_al b8c1_12 o
  have Nb16_d6 : w12.heap.size ∉ d6f := fun h => Nat.lt_irrefl _ (d6h_12.lt _ h)
  have Nb16_d6 := Nb16_d6
  have Nb16_d7 : w12.heap.size ∉ d7f := fun h => Nat.lt_irrefl _ (d7h_12.lt _ h)
  have Nb16_d7 := Nb16_d7
  have Nb16_d8 : w12.heap.size ∉ d8f := fun h => Nat.lt_irrefl _ (d8h_12.lt _ h)
  have Nb16_d8 := Nb16_d8
  have Nb16_d9vals : w12.heap.size ∉ d9fvals := fun h => Nat.lt_irrefl _ (d9hvals_12.lt _ h)
  have Nb16_d9 := Nb16_d9vals
  go_wp2_with fail
  refine (implRespondTo_any _ l0 _ _ l1 _ _ l2 _ x3 _ _ a4 _ (ints.below' d6h_12 ?_) (meths.below' d7h_12 ?_) (facts.below' d8h_12 ?_) (ints.below' d9hvals_12 ?_) nl2 nl2i).mono ?_
  · (repeat (first | exact Below.refl _ _ | refine ba ?_ | refine bdr ?_ | refine bs ?_ (by simp)))
  · (repeat (first | exact Below.refl _ _ | refine ba ?_ | refine bdr ?_ | refine bs ?_ (by simp)))
  · (repeat (first | exact Below.refl _ _ | refine ba ?_ | refine bdr ?_ | refine bs ?_ (by simp)))
  · (repeat (first | exact Below.refl _ _ | refine ba ?_ | refine bdr ?_ | refine bs ?_ (by simp)))
  rintro e w13 ⟨d10v, d10f, rfl, d10h_13, d10fr, hb13⟩
  obtain ⟨d10a, d10c, rfl⟩ := slR.form d10h_13
  have d10F : Fresh w12.heap.size (d10f) := d10fr.mono (Below.size (B := w12.heap.size) (by (repeat (first | exact Below.refl _ _ | refine ba ?_ | refine bdr ?_ | refine bs ?_ (by simp)))))
  have Xd5f_d10 : ∀ g ∈ d5f, g ∉ d10f := fun g hg => d10F.notin (d5h_12.lt g hg)
  have Xd6f_d10 : ∀ g ∈ d6f, g ∉ d10f := fun g hg => d10F.notin (d6h_12.lt g hg)
  have Xd7f_d10 : ∀ g ∈ d7f, g ∉ d10f := fun g hg => d10F.notin (d7h_12.lt g hg)
  have Xd8f_d10 : ∀ g ∈ d8f, g ∉ d10f := fun g hg => d10F.notin (d8h_12.lt g hg)
  have Xd9fvals_d10 : ∀ g ∈ d9fvals, g ∉ d10f := fun g hg => d10F.notin (d9hvals_12.lt g hg)
  have d10L : ∀ g ∈ d10f, w.heap.size ≤ g := fun g hg => Nat.le_trans (Below.size B12) (d10F.2 g hg)
  have Nb8_d10 : w.heap.size ∉ d10f := d10F.notin (lt_of_cell b8c0_12)
  have Nb16_d10 : w12.heap.size ∉ d10f := d10fr.notin (by simp)
  have D13 : Below w12.heap.size w12 w13 := bt (by (repeat (first | exact Below.refl _ _ | refine ba ?_ | refine bdr ?_ | refine bs ?_ (by simp)))) hb13
  have B13 : Below w.heap.size w w13 := bt B12 D13
  have b8c0_13 : w13.cell? ⟨w.heap.size, 0, none⟩ = some (.int .i64 x3.meth) := cell_below b8c0_12 D13
  have b8c1_13 : w13.cell? ⟨w.heap.size, 1, none⟩ = some ((.slice p3vals x3.vals.length q3vals)) := cell_below b8c1_12 D13
  have b16c0_13 : w13.cell? ⟨w12.heap.size, 0, none⟩ = some (.int .i64 x3.meth) := cell_below (cell_new _ _ _ 0 _ rfl) hb13
  have b16c1_13 : w13.cell? ⟨w12.heap.size, 1, none⟩ = some ((.slice d9avals x3.vals.length d9cvals)) := cell_below (cell_new _ _ _ 1 _ rfl) hb13
  have d5h_13 := d5h_12.below' D13
  have d6h_13 := d6h_12.below' D13
  have d7h_13 := d7h_12.below' D13
  have d8h_13 := d8h_12.below' D13
  have d9hvals_13 := d9hvals_12.below' D13
  clear b8c0_12 b8c1_12 d5h_12 d6h_12 d7h_12 d8h_12 d9hvals_12 b8c0_12n b8c1_12n
  go_wp2_with fail
  refine (eqFactS_any _ _ (respondL l0 l1 l2 x3 a4) (respondL l0 l1 l2 x3 a4) _ _ _ (facts.below' d10h_13 ?_) (facts.below' d5h_13 ?_)).mono ?_
  · (repeat (first | exact Below.refl _ _ | refine ba ?_ | refine bdr ?_ | refine bs ?_ (by simp)))
  · (repeat (first | exact Below.refl _ _ | refine ba ?_ | refine bdr ?_ | refine bs ?_ (by simp)))
  rintro e w14 ⟨rfl, hb14⟩
  have D14 : Below w13.heap.size w13 w14 := bt (by (repeat (first | exact Below.refl _ _ | refine ba ?_ | refine bdr ?_ | refine bs ?_ (by simp)))) hb14
  have B14 : Below w.heap.size w w14 := bt B13 D14
  have b8c0_14 : w14.cell? ⟨w.heap.size, 0, none⟩ = some (.int .i64 x3.meth) := cell_below b8c0_13 D14
  have b8c1_14 : w14.cell? ⟨w.heap.size, 1, none⟩ = some ((.slice p3vals x3.vals.length q3vals)) := cell_below b8c1_13 D14
  have b16c0_14 : w14.cell? ⟨w12.heap.size, 0, none⟩ = some (.int .i64 x3.meth) := cell_below b16c0_13 D14
  have b16c1_14 : w14.cell? ⟨w12.heap.size, 1, none⟩ = some ((.slice d9avals x3.vals.length d9cvals)) := cell_below b16c1_13 D14
  have d5h_14 := d5h_13.below' D14
  have d6h_14 := d6h_13.below' D14
  have d7h_14 := d7h_13.below' D14
  have d8h_14 := d8h_13.below' D14
  have d9hvals_14 := d9hvals_13.below' D14
  have d10h_14 := d10h_13.below' D14
  clear b8c0_13 b8c1_13 b16c0_13 b16c1_13 d5h_13 d6h_13 d7h_13 d8h_13 d9hvals_13 d10h_13
  go_wp2_with fail
  refine (toIntS_any _ l0 _ (intsV.below' g0 ?_) n0).mono ?_
  · (repeat (first | exact B14 | refine ba ?_ | refine bdr ?_ | refine bs ?_ (by simp)))
  rintro e w15 ⟨d11v, d11f, rfl, d11h_15, d11fr, hb15⟩
  obtain ⟨d11a, d11c, rfl⟩ := slR.form d11h_15
  have d11F : Fresh w14.heap.size (d11f) := d11fr.mono (Below.size (B := w14.heap.size) (by (repeat (first | exact Below.refl _ _ | refine ba ?_ | refine bdr ?_ | refine bs ?_ (by simp)))))
  have Xd6f_d11 : ∀ g ∈ d6f, g ∉ d11f := fun g hg => d11F.notin (d6h_14.lt g hg)
  have Xd7f_d11 : ∀ g ∈ d7f, g ∉ d11f := fun g hg => d11F.notin (d7h_14.lt g hg)
  have Xd8f_d11 : ∀ g ∈ d8f, g ∉ d11f := fun g hg => d11F.notin (d8h_14.lt g hg)
  have Xd9fvals_d11 : ∀ g ∈ d9fvals, g ∉ d11f := fun g hg => d11F.notin (d9hvals_14.lt g hg)
  have Xd10f_d11 : ∀ g ∈ d10f, g ∉ d11f := fun g hg => d11F.notin (d10h_14.lt g hg)
  have D15 : Below w14.heap.size w14 w15 := bt (by (repeat (first | exact Below.refl _ _ | refine ba ?_ | refine bdr ?_ | refine bs ?_ (by simp)))) hb15
  have B15 : Below w.heap.size w w15 := bt B14 D15
  have b8c0_15 : w15.cell? ⟨w.heap.size, 0, none⟩ = some (.int .i64 x3.meth) := cell_below b8c0_14 D15
  have b8c1_15 : w15.cell? ⟨w.heap.size, 1, none⟩ = some ((.slice p3vals x3.vals.length q3vals)) := cell_below b8c1_14 D15
  have b16c0_15 : w15.cell? ⟨w12.heap.size, 0, none⟩ = some (.int .i64 x3.meth) := cell_below b16c0_14 D15
  have b16c1_15 : w15.cell? ⟨w12.heap.size, 1, none⟩ = some ((.slice d9avals x3.vals.length d9cvals)) := cell_below b16c1_14 D15
  have d5h_15 := d5h_14.below' D15
  have d6h_15 := d6h_14.below' D15
  have d7h_15 := d7h_14.below' D15
  have d8h_15 := d8h_14.below' D15
  have d9hvals_15 := d9hvals_14.below' D15
  have d10h_15 := d10h_14.below' D15
  clear b8c0_14 b8c1_14 b16c0_14 b16c1_14 d5h_14 d6h_14 d7h_14 d8h_14 d9hvals_14 d10h_14
  go_wp2_with fail
  refine (eqIntS_any _ _ l0 l0 _ _ _ (ints.below' d6h_15 ?_) (ints.below' d11h_15 ?_)).mono ?_
  · (repeat (first | exact Below.refl _ _ | refine ba ?_ | refine bdr ?_ | refine bs ?_ (by simp)))
  · (repeat (first | exact Below.refl _ _ | refine ba ?_ | refine bdr ?_ | refine bs ?_ (by simp)))
  rintro e w16 ⟨rfl, hb16⟩
  have D16 : Below w15.heap.size w15 w16 := bt (by (repeat (first | exact Below.refl _ _ | refine ba ?_ | refine bdr ?_ | refine bs ?_ (by simp)))) hb16
  have B16 : Below w.heap.size w w16 := bt B15 D16
  have b8c0_16 : w16.cell? ⟨w.heap.size, 0, none⟩ = some (.int .i64 x3.meth) := cell_below b8c0_15 D16
  have b8c1_16 : w16.cell? ⟨w.heap.size, 1, none⟩ = some ((.slice p3vals x3.vals.length q3vals)) := cell_below b8c1_15 D16
  have b16c0_16 : w16.cell? ⟨w12.heap.size, 0, none⟩ = some (.int .i64 x3.meth) := cell_below b16c0_15 D16
  have b16c1_16 : w16.cell? ⟨w12.heap.size, 1, none⟩ = some ((.slice d9avals x3.vals.length d9cvals)) := cell_below b16c1_15 D16
  have d5h_16 := d5h_15.below' D16
  have d6h_16 := d6h_15.below' D16
  have d7h_16 := d7h_15.below' D16
  have d8h_16 := d8h_15.below' D16
  have d9hvals_16 := d9hvals_15.below' D16
  have d10h_16 := d10h_15.below' D16
  clear b8c0_15 b8c1_15 b16c0_15 b16c1_15 d5h_15 d6h_15 d7h_15 d8h_15 d9hvals_15 d10h_15 d11h_15
  go_wp2_with fail
  refine (toMethodS_any _ l1 _ (methsV.below' g1 ?_) nl1 nl1i).mono ?_
  · (repeat (first | exact B16 | refine ba ?_ | refine bdr ?_ | refine bs ?_ (by simp)))
  rintro e w17 ⟨d12v, d12f, rfl, d12h_17, d12fr, hb17⟩
  obtain ⟨d12a, d12c, rfl⟩ := slR.form d12h_17
  have d12F : Fresh w16.heap.size (d12f) := d12fr.mono (Below.size (B := w16.heap.size) (by (repeat (first | exact Below.refl _ _ | refine ba ?_ | refine bdr ?_ | refine bs ?_ (by simp)))))
  have Xd6f_d12 : ∀ g ∈ d6f, g ∉ d12f := fun g hg => d12F.notin (d6h_16.lt g hg)
  have Xd7f_d12 : ∀ g ∈ d7f, g ∉ d12f := fun g hg => d12F.notin (d7h_16.lt g hg)
  have Xd8f_d12 : ∀ g ∈ d8f, g ∉ d12f := fun g hg => d12F.notin (d8h_16.lt g hg)
  have Xd9fvals_d12 : ∀ g ∈ d9fvals, g ∉ d12f := fun g hg => d12F.notin (d9hvals_16.lt g hg)
  have Xd10f_d12 : ∀ g ∈ d10f, g ∉ d12f := fun g hg => d12F.notin (d10h_16.lt g hg)
  have D17 : Below w16.heap.size w16 w17 := bt (by (repeat (first | exact Below.refl _ _ | refine ba ?_ | refine bdr ?_ | refine bs ?_ (by simp)))) hb17
  have B17 : Below w.heap.size w w17 := bt B16 D17
  have b8c0_17 : w17.cell? ⟨w.heap.size, 0, none⟩ = some (.int .i64 x3.meth) := cell_below b8c0_16 D17
  have b8c1_17 : w17.cell? ⟨w.heap.size, 1, none⟩ = some ((.slice p3vals x3.vals.length q3vals)) := cell_below b8c1_16 D17
  have b16c0_17 : w17.cell? ⟨w12.heap.size, 0, none⟩ = some (.int .i64 x3.meth) := cell_below b16c0_16 D17
  have b16c1_17 : w17.cell? ⟨w12.heap.size, 1, none⟩ = some ((.slice d9avals x3.vals.length d9cvals)) := cell_below b16c1_16 D17
  have d5h_17 := d5h_16.below' D17
  have d6h_17 := d6h_16.below' D17
  have d7h_17 := d7h_16.below' D17
  have d8h_17 := d8h_16.below' D17
  have d9hvals_17 := d9hvals_16.below' D17
  have d10h_17 := d10h_16.below' D17
  clear b8c0_16 b8c1_16 b16c0_16 b16c1_16 d5h_16 d6h_16 d7h_16 d8h_16 d9hvals_16 d10h_16
  go_wp2_with fail
  refine (eqMethodS_any _ _ l1 l1 _ _ _ (meths.below' d7h_17 ?_) (meths.below' d12h_17 ?_)).mono ?_
  · (repeat (first | exact Below.refl _ _ | refine ba ?_ | refine bdr ?_ | refine bs ?_ (by simp)))
  · (repeat (first | exact Below.refl _ _ | refine ba ?_ | refine bdr ?_ | refine bs ?_ (by simp)))
  rintro e w18 ⟨rfl, hb18⟩
  have D18 : Below w17.heap.size w17 w18 := bt (by (repeat (first | exact Below.refl _ _ | refine ba ?_ | refine bdr ?_ | refine bs ?_ (by simp)))) hb18
  have B18 : Below w.heap.size w w18 := bt B17 D18
  have b8c0_18 : w18.cell? ⟨w.heap.size, 0, none⟩ = some (.int .i64 x3.meth) := cell_below b8c0_17 D18
  have b8c1_18 : w18.cell? ⟨w.heap.size, 1, none⟩ = some ((.slice p3vals x3.vals.length q3vals)) := cell_below b8c1_17 D18
  have b16c0_18 : w18.cell? ⟨w12.heap.size, 0, none⟩ = some (.int .i64 x3.meth) := cell_below b16c0_17 D18
  have b16c1_18 : w18.cell? ⟨w12.heap.size, 1, none⟩ = some ((.slice d9avals x3.vals.length d9cvals)) := cell_below b16c1_17 D18
  have d5h_18 := d5h_17.below' D18
  have d6h_18 := d6h_17.below' D18
  have d7h_18 := d7h_17.below' D18
  have d8h_18 := d8h_17.below' D18
  have d9hvals_18 := d9hvals_17.below' D18
  have d10h_18 := d10h_17.below' D18
  clear b8c0_17 b8c1_17 b16c0_17 b16c1_17 d5h_17 d6h_17 d7h_17 d8h_17 d9hvals_17 d10h_17 d12h_17
  go_wp2_with fail
  refine (toFactS_any _ l2 _ (factsV.below' g2 ?_) nl2 nl2i).mono ?_
  · (repeat (first | exact B18 | refine ba ?_ | refine bdr ?_ | refine bs ?_ (by simp)))
  rintro e w19 ⟨d13v, d13f, rfl, d13h_19, d13fr, hb19⟩
  obtain ⟨d13a, d13c, rfl⟩ := slR.form d13h_19
  have d13F : Fresh w18.heap.size (d13f) := d13fr.mono (Below.size (B := w18.heap.size) (by (repeat (first | exact Below.refl _ _ | refine ba ?_ | refine bdr ?_ | refine bs ?_ (by simp)))))
  have Xd6f_d13 : ∀ g ∈ d6f, g ∉ d13f := fun g hg => d13F.notin (d6h_18.lt g hg)
  have Xd7f_d13 : ∀ g ∈ d7f, g ∉ d13f := fun g hg => d13F.notin (d7h_18.lt g hg)
  have Xd8f_d13 : ∀ g ∈ d8f, g ∉ d13f := fun g hg => d13F.notin (d8h_18.lt g hg)
  have Xd9fvals_d13 : ∀ g ∈ d9fvals, g ∉ d13f := fun g hg => d13F.notin (d9hvals_18.lt g hg)
  have Xd10f_d13 : ∀ g ∈ d10f, g ∉ d13f := fun g hg => d13F.notin (d10h_18.lt g hg)
  have D19 : Below w18.heap.size w18 w19 := bt (by (repeat (first | exact Below.refl _ _ | refine ba ?_ | refine bdr ?_ | refine bs ?_ (by simp)))) hb19
  have B19 : Below w.heap.size w w19 := bt B18 D19
  have b8c0_19 : w19.cell? ⟨w.heap.size, 0, none⟩ = some (.int .i64 x3.meth) := cell_below b8c0_18 D19
  have b8c1_19 : w19.cell? ⟨w.heap.size, 1, none⟩ = some ((.slice p3vals x3.vals.length q3vals)) := cell_below b8c1_18 D19
  have b16c0_19 : w19.cell? ⟨w12.heap.size, 0, none⟩ = some (.int .i64 x3.meth) := cell_below b16c0_18 D19
  have b16c1_19 : w19.cell? ⟨w12.heap.size, 1, none⟩ = some ((.slice d9avals x3.vals.length d9cvals)) := cell_below b16c1_18 D19
  have d5h_19 := d5h_18.below' D19
  have d6h_19 := d6h_18.below' D19
  have d7h_19 := d7h_18.below' D19
  have d8h_19 := d8h_18.below' D19
  have d9hvals_19 := d9hvals_18.below' D19
  have d10h_19 := d10h_18.below' D19
  clear b8c0_18 b8c1_18 b16c0_18 b16c1_18 d5h_18 d6h_18 d7h_18 d8h_18 d9hvals_18 d10h_18
  go_wp2_with fail
  refine (eqFactS_any _ _ l2 l2 _ _ _ (facts.below' d8h_19 ?_) (facts.below' d13h_19 ?_)).mono ?_
  · (repeat (first | exact Below.refl _ _ | refine ba ?_ | refine bdr ?_ | refine bs ?_ (by simp)))
  · (repeat (first | exact Below.refl _ _ | refine ba ?_ | refine bdr ?_ | refine bs ?_ (by simp)))
  rintro e w20 ⟨rfl, hb20⟩
  have D20 : Below w19.heap.size w19 w20 := bt (by (repeat (first | exact Below.refl _ _ | refine ba ?_ | refine bdr ?_ | refine bs ?_ (by simp)))) hb20
  have B20 : Below w.heap.size w w20 := bt B19 D20
  have b8c0_20 : w20.cell? ⟨w.heap.size, 0, none⟩ = some (.int .i64 x3.meth) := cell_below b8c0_19 D20
  have b8c1_20 : w20.cell? ⟨w.heap.size, 1, none⟩ = some ((.slice p3vals x3.vals.length q3vals)) := cell_below b8c1_19 D20
  have b16c0_20 : w20.cell? ⟨w12.heap.size, 0, none⟩ = some (.int .i64 x3.meth) := cell_below b16c0_19 D20
  have b16c1_20 : w20.cell? ⟨w12.heap.size, 1, none⟩ = some ((.slice d9avals x3.vals.length d9cvals)) := cell_below b16c1_19 D20
  have d5h_20 := d5h_19.below' D20
  have d6h_20 := d6h_19.below' D20
  have d7h_20 := d7h_19.below' D20
  have d8h_20 := d8h_19.below' D20
  have d9hvals_20 := d9hvals_19.below' D20
  have d10h_20 := d10h_19.below' D20
  clear b8c0_19 b8c1_19 b16c0_19 b16c1_19 d5h_19 d6h_19 d7h_19 d8h_19 d9hvals_19 d10h_19 d13h_19
  go_wp2_with fail
  go_region_held3 (fun w' => w'.cell? ⟨w12.heap.size, 0, none⟩ = some (.int .i64 x3.meth) ∧ w'.cell? ⟨w12.heap.size, 1, none⟩ = some ((.slice d9avals x3.vals.length d9cvals)) ∧ w'.cell? ⟨w.heap.size, 0, none⟩ = some (.int .i64 x3.meth) ∧ w'.cell? ⟨w.heap.size, 1, none⟩ = some ((.slice p3vals x3.vals.length q3vals))) (first | exact ⟨b16c0_20, b16c1_20, b8c0_20, b8c1_20⟩ | exact ⟨b16c0_21, b16c1_21, b8c0_21, b8c1_21⟩ | exact ⟨b16c0_22, b16c1_22, b8c0_22, b8c1_22⟩)
    (first
      | (go_at_call 56
         with_reducible refine (toAccess_any x3 _ _ (intsV.below' h3vals ?_) nx3vals).mono ?_
         · (repeat (first | exact B20 | refine ba ?_ | refine bdr ?_ | refine bs ?_ (by simp)))
         rintro e w21 ⟨d14vvals, d14fvals, rfl, d14hvals_21, d14fr, hb21⟩
         obtain ⟨d14avals, d14cvals, rfl⟩ := slR.form d14hvals_21
         have d14F : Fresh w20.heap.size (d14fvals) := d14fr.mono (Below.size (B := w20.heap.size) (by (repeat (first | exact Below.refl _ _ | refine ba ?_ | refine bdr ?_ | refine bs ?_ (by simp)))))
         have Xd6f_d14 : ∀ g ∈ d6f, g ∉ d14fvals := fun g hg => d14F.notin (d6h_20.lt g hg)
         have Xd7f_d14 : ∀ g ∈ d7f, g ∉ d14fvals := fun g hg => d14F.notin (d7h_20.lt g hg)
         have Xd8f_d14 : ∀ g ∈ d8f, g ∉ d14fvals := fun g hg => d14F.notin (d8h_20.lt g hg)
         have Xd9fvals_d14 : ∀ g ∈ d9fvals, g ∉ d14fvals := fun g hg => d14F.notin (d9hvals_20.lt g hg)
         have Xd10f_d14 : ∀ g ∈ d10f, g ∉ d14fvals := fun g hg => d14F.notin (d10h_20.lt g hg)
         have D21 : Below w20.heap.size w20 w21 := bt (by (repeat (first | exact Below.refl _ _ | refine ba ?_ | refine bdr ?_ | refine bs ?_ (by simp)))) hb21
         have B21 : Below w.heap.size w w21 := bt B20 D21
         have b8c0_21 : w21.cell? ⟨w.heap.size, 0, none⟩ = some (.int .i64 x3.meth) := cell_below b8c0_20 D21
         have b8c1_21 : w21.cell? ⟨w.heap.size, 1, none⟩ = some ((.slice p3vals x3.vals.length q3vals)) := cell_below b8c1_20 D21
         have b16c0_21 : w21.cell? ⟨w12.heap.size, 0, none⟩ = some (.int .i64 x3.meth) := cell_below b16c0_20 D21
         have b16c1_21 : w21.cell? ⟨w12.heap.size, 1, none⟩ = some ((.slice d9avals x3.vals.length d9cvals)) := cell_below b16c1_20 D21
         have d5h_21 := d5h_20.below' D21
         have d6h_21 := d6h_20.below' D21
         have d7h_21 := d7h_20.below' D21
         have d8h_21 := d8h_20.below' D21
         have d9hvals_21 := d9hvals_20.below' D21
         have d10h_21 := d10h_20.below' D21)
      | (go_at_call 59
         with_reducible refine (eqAccess_any x3 x3 _ _ _ _ _ (ints.below' d9hvals_21 ?_) (ints.below' d14hvals_21 ?_)).mono ?_
         · (repeat (first | exact Below.refl _ _ | refine ba ?_ | refine bdr ?_ | refine bs ?_ (by simp)))
         · (repeat (first | exact Below.refl _ _ | refine ba ?_ | refine bdr ?_ | refine bs ?_ (by simp)))
         rintro e w22 ⟨rfl, hb22⟩
         have D22 : Below w21.heap.size w21 w22 := bt (by (repeat (first | exact Below.refl _ _ | refine ba ?_ | refine bdr ?_ | refine bs ?_ (by simp)))) hb22
         have B22 : Below w.heap.size w w22 := bt B21 D22
         have b8c0_22 : w22.cell? ⟨w.heap.size, 0, none⟩ = some (.int .i64 x3.meth) := cell_below b8c0_21 D22
         have b8c1_22 : w22.cell? ⟨w.heap.size, 1, none⟩ = some ((.slice p3vals x3.vals.length q3vals)) := cell_below b8c1_21 D22
         have b16c0_22 : w22.cell? ⟨w12.heap.size, 0, none⟩ = some (.int .i64 x3.meth) := cell_below b16c0_21 D22
         have b16c1_22 : w22.cell? ⟨w12.heap.size, 1, none⟩ = some ((.slice d9avals x3.vals.length d9cvals)) := cell_below b16c1_21 D22
         have d5h_22 := d5h_21.below' D22
         have d6h_22 := d6h_21.below' D22
         have d7h_22 := d7h_21.below' D22
         have d8h_22 := d8h_21.below' D22
         have d9hvals_22 := d9hvals_21.below' D22
         have d10h_22 := d10h_21.below' D22))
  clear b8c0_20 b8c1_20 b16c0_20 b16c1_20 d5h_20 d6h_20 d7h_20 d8h_20 d9hvals_20 d10h_20 b8c0_21 b8c1_21 b16c0_21 b16c1_21 d5h_21 d6h_21 d7h_21 d8h_21 d9hvals_21 d10h_21 d14hvals_21
  go_wp2_with fail
  refine (markIntS_any _ l0 d6f (1) _ (ints.below' d6h_22 ?_) ⟨by omega, by omega⟩ (by omega)).mono ?_
  · (repeat (first | exact Below.refl _ _ | refine ba ?_ | refine bdr ?_ | refine bs ?_ (by simp)))
  rintro e w23 ⟨rfl, d6hm, hw23⟩
  have B23 : Below w.heap.size w w23 := bw B22 hw23 d6L
  have b8c0_23 : w23.cell? ⟨w.heap.size, 0, none⟩ = some (.int .i64 x3.meth) := (hw23.cellAt (lt_of_cell b8c0_22) Nb8_d6).trans b8c0_22
  have b8c1_23 : w23.cell? ⟨w.heap.size, 1, none⟩ = some ((.slice p3vals x3.vals.length q3vals)) := (hw23.cellAt (lt_of_cell b8c1_22) Nb8_d6).trans b8c1_22
  have b16c0_23 : w23.cell? ⟨w12.heap.size, 0, none⟩ = some (.int .i64 x3.meth) := (hw23.cellAt (lt_of_cell b16c0_22) Nb16_d6).trans b16c0_22
  have b16c1_23 : w23.cell? ⟨w12.heap.size, 1, none⟩ = some ((.slice d9avals x3.vals.length d9cvals)) := (hw23.cellAt (lt_of_cell b16c1_22) Nb16_d6).trans b16c1_22
  have d5h_23 := facts.frame d5h_22 fun g hg => hw23.block g (d5h_22.lt g hg) (Xd5f_d6 g hg)
  have d7h_23 := meths.frame d7h_22 fun g hg => hw23.block g (d7h_22.lt g hg) ((fun hgx => Xd6f_d7 g hgx (by simp [hg])))
  have d8h_23 := facts.frame d8h_22 fun g hg => hw23.block g (d8h_22.lt g hg) ((fun hgx => Xd6f_d8 g hgx (by simp [hg])))
  have d9hvals_23 := ints.frame d9hvals_22 fun g hg => hw23.block g (d9hvals_22.lt g hg) ((fun hgx => Xd6f_d9 g hgx (by simp [hg])))
  have d10h_23 := facts.frame d10h_22 fun g hg => hw23.block g (d10h_22.lt g hg) ((fun hgx => Xd6f_d10 g hgx (by simp [hg])))
  clear b8c0_22 b8c1_22 b16c0_22 b16c1_22 d5h_22 d6h_22 d7h_22 d8h_22 d9hvals_22 d10h_22
  go_wp2_with fail
  refine (markMethodS_any _ l1 d7f (1 + l0.length) _ (meths.below' d7h_23 ?_) d7F.1 (by omega) (by omega)).mono ?_
  · (repeat (first | exact Below.refl _ _ | refine ba ?_ | refine bdr ?_ | refine bs ?_ (by simp)))
  rintro e w24 ⟨rfl, d7hm, hw24⟩
  have B24 : Below w.heap.size w w24 := bw B23 hw24 d7L
  have b8c0_24 : w24.cell? ⟨w.heap.size, 0, none⟩ = some (.int .i64 x3.meth) := (hw24.cellAt (lt_of_cell b8c0_23) Nb8_d7).trans b8c0_23
  have b8c1_24 : w24.cell? ⟨w.heap.size, 1, none⟩ = some ((.slice p3vals x3.vals.length q3vals)) := (hw24.cellAt (lt_of_cell b8c1_23) Nb8_d7).trans b8c1_23
  have b16c0_24 : w24.cell? ⟨w12.heap.size, 0, none⟩ = some (.int .i64 x3.meth) := (hw24.cellAt (lt_of_cell b16c0_23) Nb16_d7).trans b16c0_23
  have b16c1_24 : w24.cell? ⟨w12.heap.size, 1, none⟩ = some ((.slice d9avals x3.vals.length d9cvals)) := (hw24.cellAt (lt_of_cell b16c1_23) Nb16_d7).trans b16c1_23
  have d5h_24 := facts.frame d5h_23 fun g hg => hw24.block g (d5h_23.lt g hg) (Xd5f_d7 g hg)
  have d8h_24 := facts.frame d8h_23 fun g hg => hw24.block g (d8h_23.lt g hg) ((fun hgx => Xd7f_d8 g hgx (by simp [hg])))
  have d9hvals_24 := ints.frame d9hvals_23 fun g hg => hw24.block g (d9hvals_23.lt g hg) ((fun hgx => Xd7f_d9 g hgx (by simp [hg])))
  have d10h_24 := facts.frame d10h_23 fun g hg => hw24.block g (d10h_23.lt g hg) ((fun hgx => Xd7f_d10 g hgx (by simp [hg])))
  clear b8c0_23 b8c1_23 b16c0_23 b16c1_23 d5h_23 d7h_23 d8h_23 d9hvals_23 d10h_23
  go_wp2_with fail
  refine (markFactS_any _ l2 d8f (1 + l0.length + ((l1.map cntMethod).sum : Nat)) _ (facts.below' d8h_24 ?_) d8F.1 (by omega) (by omega)).mono ?_
  · (repeat (first | exact Below.refl _ _ | refine ba ?_ | refine bdr ?_ | refine bs ?_ (by simp)))
  rintro e w25 ⟨rfl, d8hm, hw25⟩
  have B25 : Below w.heap.size w w25 := bw B24 hw25 d8L
  have b8c0_25 : w25.cell? ⟨w.heap.size, 0, none⟩ = some (.int .i64 x3.meth) := (hw25.cellAt (lt_of_cell b8c0_24) Nb8_d8).trans b8c0_24
  have b8c1_25 : w25.cell? ⟨w.heap.size, 1, none⟩ = some ((.slice p3vals x3.vals.length q3vals)) := (hw25.cellAt (lt_of_cell b8c1_24) Nb8_d8).trans b8c1_24
  have b16c0_25 : w25.cell? ⟨w12.heap.size, 0, none⟩ = some (.int .i64 x3.meth) := (hw25.cellAt (lt_of_cell b16c0_24) Nb16_d8).trans b16c0_24
  have b16c1_25 : w25.cell? ⟨w12.heap.size, 1, none⟩ = some ((.slice d9avals x3.vals.length d9cvals)) := (hw25.cellAt (lt_of_cell b16c1_24) Nb16_d8).trans b16c1_24
  have d5h_25 := facts.frame d5h_24 fun g hg => hw25.block g (d5h_24.lt g hg) (Xd5f_d8 g hg)
  have d9hvals_25 := ints.frame d9hvals_24 fun g hg => hw25.block g (d9hvals_24.lt g hg) ((fun hgx => Xd8f_d9 g hgx (by simp [hg])))
  have d10h_25 := facts.frame d10h_24 fun g hg => hw25.block g (d10h_24.lt g hg) ((fun hgx => Xd8f_d10 g hgx (by simp [hg])))
  clear b8c0_24 b8c1_24 b16c0_24 b16c1_24 d5h_24 d8h_24 d9hvals_24 d10h_24
  go_wp2_with fail
  refine (markAccess_any x3 _ d9fvals (1 + l0.length + ((l1.map cntMethod).sum : Nat) + ((l2.map cntFact).sum : Nat)) _ (ints.below' d9hvals_25 ?_) d9F.1 (by omega) (by omega)).mono ?_
  · (repeat (first | exact Below.refl _ _ | refine ba ?_ | refine bdr ?_ | refine bs ?_ (by simp)))
  rintro e w26 ⟨rfl, d9hvalsm, hw26⟩
  have B26 : Below w.heap.size w w26 := bw B25 hw26 d9L
  have b8c0_26 : w26.cell? ⟨w.heap.size, 0, none⟩ = some (.int .i64 x3.meth) := (hw26.cellAt (lt_of_cell b8c0_25) Nb8_d9).trans b8c0_25
  have b8c1_26 : w26.cell? ⟨w.heap.size, 1, none⟩ = some ((.slice p3vals x3.vals.length q3vals)) := (hw26.cellAt (lt_of_cell b8c1_25) Nb8_d9).trans b8c1_25
  have d5h_26 := facts.frame d5h_25 fun g hg => hw26.block g (d5h_25.lt g hg) (Xd5f_d9 g hg)
  have d10h_26 := facts.frame d10h_25 fun g hg => hw26.block g (d10h_25.lt g hg) ((fun hgx => Xd9fvals_d10 g hgx (by simp [hg])))
  clear b8c0_25 b8c1_25 b16c0_25 b16c1_25 d5h_25 d9hvals_25 d10h_25
  go_wp2_with fail
  refine (eqFactS_any _ _ (respondL l0 l1 l2 x3 a4) (respondL l0 l1 l2 x3 a4) _ _ _ (facts.below' d10h_26 ?_) (facts.below' d5h_26 ?_)).mono ?_
  · (repeat (first | exact Below.refl _ _ | refine ba ?_ | refine bdr ?_ | refine bs ?_ (by simp)))
  · (repeat (first | exact Below.refl _ _ | refine ba ?_ | refine bdr ?_ | refine bs ?_ (by simp)))
  rintro e w27 ⟨rfl, hb27⟩
  have D27 : Below w26.heap.size w26 w27 := bt (by (repeat (first | exact Below.refl _ _ | refine ba ?_ | refine bdr ?_ | refine bs ?_ (by simp)))) hb27
  have B27 : Below w.heap.size w w27 := bt B26 D27
  have b8c0_27 : w27.cell? ⟨w.heap.size, 0, none⟩ = some (.int .i64 x3.meth) := cell_below b8c0_26 D27
  have b8c1_27 : w27.cell? ⟨w.heap.size, 1, none⟩ = some ((.slice p3vals x3.vals.length q3vals)) := cell_below b8c1_26 D27
  have d5h_27 := d5h_26.below' D27
  have d10h_27 := d10h_26.below' D27
  clear b8c0_26 b8c1_26 d5h_26 d10h_26
  go_wp2_with fail
  refine (markFactS_any _ (respondL l0 l1 l2 x3 a4) d10f (1) _ (facts.below' d10h_27 ?_) d10F.1 (by omega) (by omega)).mono ?_
  · (repeat (first | exact Below.refl _ _ | refine ba ?_ | refine bdr ?_ | refine bs ?_ (by simp)))
  rintro e w28 ⟨rfl, d10hm, hw28⟩
  have B28 : Below w.heap.size w w28 := bw B27 hw28 d10L
  have b8c0_28 : w28.cell? ⟨w.heap.size, 0, none⟩ = some (.int .i64 x3.meth) := (hw28.cellAt (lt_of_cell b8c0_27) Nb8_d10).trans b8c0_27
  have b8c1_28 : w28.cell? ⟨w.heap.size, 1, none⟩ = some ((.slice p3vals x3.vals.length q3vals)) := (hw28.cellAt (lt_of_cell b8c1_27) Nb8_d10).trans b8c1_27
  have d5h_28 := facts.frame d5h_27 fun g hg => hw28.block g (d5h_27.lt g hg) (Xd5f_d10 g hg)
  have d10h_28 := d10hm
  clear b8c0_27 b8c1_27 d5h_27 d10h_27
  go_wp2_with fail
  refine (heldFactS_any _ (respondL l0 l1 l2 x3 a4) _ (1) _ (facts.below' d10h_28 ?_) (by omega) (by omega)).mono ?_
  · (repeat (first | exact Below.refl _ _ | refine ba ?_ | refine bdr ?_ | refine bs ?_ (by simp)))
  rintro e w29 ⟨rfl, hb29⟩
  have D29 : Below w28.heap.size w28 w29 := bt (by (repeat (first | exact Below.refl _ _ | refine ba ?_ | refine bdr ?_ | refine bs ?_ (by simp)))) hb29
  have B29 : Below w.heap.size w w29 := bt B28 D29
  have b8c0_29 : w29.cell? ⟨w.heap.size, 0, none⟩ = some (.int .i64 x3.meth) := cell_below b8c0_28 D29
  have b8c1_29 : w29.cell? ⟨w.heap.size, 1, none⟩ = some ((.slice p3vals x3.vals.length q3vals)) := cell_below b8c1_28 D29
  have d5h_29 := d5h_28.below' D29
  have d10h_29 := d10h_28.below' D29
  clear b8c0_28 b8c1_28 d5h_28 d10h_28
  go_wp2_with fail
  go_region_held3 (fun w' => w'.cell? ⟨w.heap.size, 0, none⟩ = some (.int .i64 x3.meth) ∧ w'.cell? ⟨w.heap.size, 1, none⟩ = some ((.slice p3vals x3.vals.length q3vals))) (first | exact ⟨b8c0_29, b8c1_29⟩ | exact ⟨b8c0_30, b8c1_30⟩ | exact ⟨b8c0_31, b8c1_31⟩ | exact ⟨b8c0_32, b8c1_32⟩ | exact ⟨b8c0_33, b8c1_33⟩ | exact ⟨b8c0_34, b8c1_34⟩)
    (first
      | (go_at_call 29
         with_reducible refine (toIntS_any _ l0 _ (intsV.below' g0 ?_) n0).mono ?_
         · (repeat (first | exact B29 | refine ba ?_ | refine bdr ?_ | refine bs ?_ (by simp)))
         rintro e w30 ⟨d15v, d15f, rfl, d15h_30, d15fr, hb30⟩
         obtain ⟨d15a, d15c, rfl⟩ := slR.form d15h_30
         have D30 : Below w29.heap.size w29 w30 := bt (by (repeat (first | exact Below.refl _ _ | refine ba ?_ | refine bdr ?_ | refine bs ?_ (by simp)))) hb30
         have B30 : Below w.heap.size w w30 := bt B29 D30
         have b8c0_30 : w30.cell? ⟨w.heap.size, 0, none⟩ = some (.int .i64 x3.meth) := cell_below b8c0_29 D30
         have b8c1_30 : w30.cell? ⟨w.heap.size, 1, none⟩ = some ((.slice p3vals x3.vals.length q3vals)) := cell_below b8c1_29 D30
         have d5h_30 := d5h_29.below' D30
         have d10h_30 := d10h_29.below' D30)
      | (go_at_call 55
         with_reducible refine (toMethodS_any _ l1 _ (methsV.below' g1 ?_) nl1 nl1i).mono ?_
         · (repeat (first | exact B30 | refine ba ?_ | refine bdr ?_ | refine bs ?_ (by simp)))
         rintro e w31 ⟨d16v, d16f, rfl, d16h_31, d16fr, hb31⟩
         obtain ⟨d16a, d16c, rfl⟩ := slR.form d16h_31
         have D31 : Below w30.heap.size w30 w31 := bt (by (repeat (first | exact Below.refl _ _ | refine ba ?_ | refine bdr ?_ | refine bs ?_ (by simp)))) hb31
         have B31 : Below w.heap.size w w31 := bt B30 D31
         have b8c0_31 : w31.cell? ⟨w.heap.size, 0, none⟩ = some (.int .i64 x3.meth) := cell_below b8c0_30 D31
         have b8c1_31 : w31.cell? ⟨w.heap.size, 1, none⟩ = some ((.slice p3vals x3.vals.length q3vals)) := cell_below b8c1_30 D31
         have d5h_31 := d5h_30.below' D31
         have d10h_31 := d10h_30.below' D31
         have d15h_31 := d15h_30.below' D31)
      | (go_at_call 40
         with_reducible refine (toFactS_any _ l2 _ (factsV.below' g2 ?_) nl2 nl2i).mono ?_
         · (repeat (first | exact B31 | refine ba ?_ | refine bdr ?_ | refine bs ?_ (by simp)))
         rintro e w32 ⟨d17v, d17f, rfl, d17h_32, d17fr, hb32⟩
         obtain ⟨d17a, d17c, rfl⟩ := slR.form d17h_32
         have D32 : Below w31.heap.size w31 w32 := bt (by (repeat (first | exact Below.refl _ _ | refine ba ?_ | refine bdr ?_ | refine bs ?_ (by simp)))) hb32
         have B32 : Below w.heap.size w w32 := bt B31 D32
         have b8c0_32 : w32.cell? ⟨w.heap.size, 0, none⟩ = some (.int .i64 x3.meth) := cell_below b8c0_31 D32
         have b8c1_32 : w32.cell? ⟨w.heap.size, 1, none⟩ = some ((.slice p3vals x3.vals.length q3vals)) := cell_below b8c1_31 D32
         have d5h_32 := d5h_31.below' D32
         have d10h_32 := d10h_31.below' D32
         have d15h_32 := d15h_31.below' D32
         have d16h_32 := d16h_31.below' D32)
      | (go_at_call 56
         with_reducible refine (toAccess_any x3 _ _ (intsV.below' h3vals ?_) nx3vals).mono ?_
         · (repeat (first | exact B32 | refine ba ?_ | refine bdr ?_ | refine bs ?_ (by simp)))
         rintro e w33 ⟨d18vvals, d18fvals, rfl, d18hvals_33, d18fr, hb33⟩
         obtain ⟨d18avals, d18cvals, rfl⟩ := slR.form d18hvals_33
         have D33 : Below w32.heap.size w32 w33 := bt (by (repeat (first | exact Below.refl _ _ | refine ba ?_ | refine bdr ?_ | refine bs ?_ (by simp)))) hb33
         have B33 : Below w.heap.size w w33 := bt B32 D33
         have b8c0_33 : w33.cell? ⟨w.heap.size, 0, none⟩ = some (.int .i64 x3.meth) := cell_below b8c0_32 D33
         have b8c1_33 : w33.cell? ⟨w.heap.size, 1, none⟩ = some ((.slice p3vals x3.vals.length q3vals)) := cell_below b8c1_32 D33
         have d5h_33 := d5h_32.below' D33
         have d10h_33 := d10h_32.below' D33
         have d15h_33 := d15h_32.below' D33
         have d16h_33 := d16h_32.below' D33
         have d17h_33 := d17h_32.below' D33)
      | (go_at_call 65
         with_reducible refine (implRespondTo_any _ l0 _ _ l1 _ _ l2 _ x3 _ _ a4 _ (ints.below' d15h_33 ?_) (meths.below' d16h_33 ?_) (facts.below' d17h_33 ?_) (ints.below' d18hvals_33 ?_) nl2 nl2i).mono ?_
         · (repeat (first | exact Below.refl _ _ | refine ba ?_ | refine bdr ?_ | refine bs ?_ (by simp)))
         · (repeat (first | exact Below.refl _ _ | refine ba ?_ | refine bdr ?_ | refine bs ?_ (by simp)))
         · (repeat (first | exact Below.refl _ _ | refine ba ?_ | refine bdr ?_ | refine bs ?_ (by simp)))
         · (repeat (first | exact Below.refl _ _ | refine ba ?_ | refine bdr ?_ | refine bs ?_ (by simp)))
         rintro e w34 ⟨d19v, d19f, rfl, d19h_34, d19fr, hb34⟩
         obtain ⟨d19a, d19c, rfl⟩ := slR.form d19h_34
         have D34 : Below w33.heap.size w33 w34 := bt (by (repeat (first | exact Below.refl _ _ | refine ba ?_ | refine bdr ?_ | refine bs ?_ (by simp)))) hb34
         have B34 : Below w.heap.size w w34 := bt B33 D34
         have b8c0_34 : w34.cell? ⟨w.heap.size, 0, none⟩ = some (.int .i64 x3.meth) := cell_below b8c0_33 D34
         have b8c1_34 : w34.cell? ⟨w.heap.size, 1, none⟩ = some ((.slice p3vals x3.vals.length q3vals)) := cell_below b8c1_33 D34
         have d5h_34 := d5h_33.below' D34
         have d10h_34 := d10h_33.below' D34))
  clear b8c0_29 b8c1_29 d5h_29 d10h_29 b8c0_30 b8c1_30 d5h_30 d10h_30 d15h_30 b8c0_31 b8c1_31 d5h_31 d10h_31 d15h_31 d16h_31 b8c0_32 b8c1_32 d5h_32 d10h_32 d15h_32 d16h_32 d17h_32 b8c0_33 b8c1_33 d5h_33 d10h_33 d15h_33 d16h_33 d17h_33 d18hvals_33
  go_wp2_with fail
  refine (eqFactS_any _ _ (respondL l0 l1 l2 x3 a4) (respondL l0 l1 l2 x3 a4) _ _ _ (facts.below' d19h_34 ?_) (facts.below' d5h_34 ?_)).mono ?_
  · (repeat (first | exact Below.refl _ _ | refine ba ?_ | refine bdr ?_ | refine bs ?_ (by simp)))
  · (repeat (first | exact Below.refl _ _ | refine ba ?_ | refine bdr ?_ | refine bs ?_ (by simp)))
  rintro e w35 ⟨rfl, hb35⟩
  have D35 : Below w34.heap.size w34 w35 := bt (by (repeat (first | exact Below.refl _ _ | refine ba ?_ | refine bdr ?_ | refine bs ?_ (by simp)))) hb35
  have B35 : Below w.heap.size w w35 := bt B34 D35
  have b8c0_35 : w35.cell? ⟨w.heap.size, 0, none⟩ = some (.int .i64 x3.meth) := cell_below b8c0_34 D35
  have b8c1_35 : w35.cell? ⟨w.heap.size, 1, none⟩ = some ((.slice p3vals x3.vals.length q3vals)) := cell_below b8c1_34 D35
  have d10h_35 := d10h_34.below' D35
  clear b8c0_34 b8c1_34 d5h_34 d10h_34 d19h_34
  go_wp2_with fail
  refine (heldFactS_any _ (respondL l0 l1 l2 x3 a4) _ (1) _ (facts.below' d10h_35 ?_) (by omega) (by omega)).mono ?_
  · (repeat (first | exact Below.refl _ _ | refine ba ?_ | refine bdr ?_ | refine bs ?_ (by simp)))
  rintro e w36 ⟨rfl, hb36⟩
  have D36 : Below w35.heap.size w35 w36 := bt (by (repeat (first | exact Below.refl _ _ | refine ba ?_ | refine bdr ?_ | refine bs ?_ (by simp)))) hb36
  have B36 : Below w.heap.size w w36 := bt B35 D36
  have b8c0_36 : w36.cell? ⟨w.heap.size, 0, none⟩ = some (.int .i64 x3.meth) := cell_below b8c0_35 D36
  have b8c1_36 : w36.cell? ⟨w.heap.size, 1, none⟩ = some ((.slice p3vals x3.vals.length q3vals)) := cell_below b8c1_35 D36
  clear b8c0_35 b8c1_35 d10h_35
  go_wp2
  go_ret
  exact ⟨rfl, B36⟩
end Go.Proofs.Ytjjkfhjkfoikbaa
