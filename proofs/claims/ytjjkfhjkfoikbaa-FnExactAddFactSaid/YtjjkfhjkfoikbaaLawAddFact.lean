/- The walk of the law FnExactAddFact: it returns true, whatever the input. -/
import Derived.Test.YtjjkfhjkfoikbaaAddI
import Derived.Test.YtjjkfhjkfoikbaaAddS
import Derived.Test.YtjjkfhjkfoikbaaAddB
import Derived.Test.YtjjkfhjkfoikbaaFacts0
namespace Go.Proofs.Ytjjkfhjkfoikbaa
open Go.RowKit
set_option linter.unusedVariables false
set_option linter.unusedSimpArgs false
set_option maxRecDepth 100000 in
set_option maxHeartbeats 8000000 in
theorem fnExactAddFact_walk (v0 : Value) (l0 : List FactD) (cs1 : List Value) (x1 : FactD) (w : World) (g0 : factsV w v0 l0) (g1 : factW w cs1 x1)  :
    Calls Try.prog 6 #[v0, .agg cs1.toArray] w fun e w' => e = .returned (.bool true) ∧ Below w.heap.size w w' := by
  obtain ⟨p0, q0, rfl⟩ := slW.form g0
  obtain ⟨v1vals, rfl, i1rel, h1vals⟩ := g1
  obtain ⟨p1vals, q1vals, rfl⟩ := slW.form h1vals
  have b3c0_0 : (w.alloc (.cells #[.int .i64 x1.rel, (.slice p1vals x1.vals.length q1vals)] 28)).cell? ⟨w.heap.size, 0, none⟩ = some (.int .i64 x1.rel) := cell_new w _ _ 0 _ rfl
  have b3c1_0 : (w.alloc (.cells #[.int .i64 x1.rel, (.slice p1vals x1.vals.length q1vals)] 28)).cell? ⟨w.heap.size, 1, none⟩ = some ((.slice p1vals x1.vals.length q1vals)) := cell_new w _ _ 1 _ rfl
  have rr : decide (addFactL l0 x1 = addFactL l0 x1) = true := by simp
  have rd0 : decide (l0 = l0) = true := by simp
  have rd1 : decide (x1 = x1) = true := by simp
  go_enter Try.func6, Try.ntmps6
  go_wp2_with fail
  refine (szFactS_any _ l0 (1048576) _ (factsV.below' g0 ?_) ⟨by omega, by omega⟩).mono ?_
  · (repeat (first | exact Below.refl _ _ | refine ba ?_ | refine bdr ?_ | refine bs ?_ (by simp)))
  rintro e w1 ⟨rfl, hb1⟩
  have D1 : Below w.heap.size w w1 := bt (by (repeat (first | exact Below.refl _ _ | refine ba ?_ | refine bdr ?_ | refine bs ?_ (by simp)))) hb1
  have B1 : Below w.heap.size w w1 := D1
  have b3c0_1 : w1.cell? ⟨w.heap.size, 0, none⟩ = some (.int .i64 x1.rel) := cell_below (b3c0_0) hb1
  have b3c1_1 : w1.cell? ⟨w.heap.size, 1, none⟩ = some ((.slice p1vals x1.vals.length q1vals)) := cell_below (b3c1_0) hb1
  clear b3c0_0 b3c1_0
  rcases left_cases (bulkFactS l0) (1048576) (by omega) with ⟨t0, t1⟩ | ⟨t0, t1⟩
  case inl =>
    have T1 := Lib.hid t1; clear t1
    go_wp2
    go_ret
    exact ⟨rfl, B1⟩
  have T1 := Lib.hid t1; clear t1
  obtain ⟨ql0, el01, el02⟩ := left_bd t0 (by omega) (by omega)
  clear t0
  have nl0 : l0.length ≤ 1048576 := by have h9 := ql0; unfold bulkFactS at h9; omega
  have nl0i : ∀ y ∈ l0, y.vals.length ≤ 1048576 := fun y hy => by have h9 := ql0; unfold bulkFactS at h9; have h8 := sum_ge_mem (f := fun x => bulkFact x) hy; unfold bulkFact at h8 h9; omega
  go_wp2_with fail
  refine (szFact_any x1 _ (left (bulkFactS l0) (1048576)) _ (intsV.below' h1vals ?_) ⟨by omega, by omega⟩).mono ?_
  · (repeat (first | exact B1 | refine ba ?_ | refine bdr ?_ | refine bs ?_ (by simp)))
  rintro e w2 ⟨rfl, hb2⟩
  have D2 : Below w1.heap.size w1 w2 := bt (by (repeat (first | exact Below.refl _ _ | refine ba ?_ | refine bdr ?_ | refine bs ?_ (by simp)))) hb2
  have B2 : Below w.heap.size w w2 := bt B1 D2
  have b3c0_2 : w2.cell? ⟨w.heap.size, 0, none⟩ = some (.int .i64 x1.rel) := cell_below b3c0_1 D2
  have b3c1_2 : w2.cell? ⟨w.heap.size, 1, none⟩ = some ((.slice p1vals x1.vals.length q1vals)) := cell_below b3c1_1 D2
  clear b3c0_1 b3c1_1
  rcases left_cases (bulkFact x1) (left (bulkFactS l0) (1048576)) (by omega) with ⟨t0, t1⟩ | ⟨t0, t1⟩
  case inl =>
    have T1 := Lib.hid t1; clear t1
    go_wp2
    go_ret
    exact ⟨rfl, B2⟩
  have T2 := Lib.hid t1; clear t1
  obtain ⟨qx1, ex11, ex12⟩ := left_bd t0 (by omega) (by omega)
  clear t0
  have nx1vals : x1.vals.length ≤ 1048576 := by have h9 := qx1; unfold bulkFact at h9; omega
  have nC : (l0.map cntFact).sum ≤ 1048576 := cntFactS_bulk ql0
  have nR : ((addFactL l0 x1).map cntFact).sum ≤ 2097153 := cntFactS_add ql0 nx1vals
  go_wp2_with fail
  go_region_held3 (fun w' => w'.cell? ⟨w.heap.size, 0, none⟩ = some (.int .i64 x1.rel) ∧ w'.cell? ⟨w.heap.size, 1, none⟩ = some ((.slice p1vals x1.vals.length q1vals))) (first | exact ⟨b3c0_2, b3c1_2⟩ | exact ⟨b3c0_3, b3c1_3⟩ | exact ⟨b3c0_4, b3c1_4⟩ | exact ⟨b3c0_5, b3c1_5⟩)
    (first
      | (go_at_call 40
         with_reducible refine (toFactS_any _ l0 _ (factsV.below' g0 ?_) nl0 nl0i).mono ?_
         · (repeat (first | exact B2 | refine ba ?_ | refine bdr ?_ | refine bs ?_ (by simp)))
         rintro e w3 ⟨d1v, d1f, rfl, d1h_3, d1fr, hb3⟩
         obtain ⟨d1a, d1c, rfl⟩ := slR.form d1h_3
         have D3 : Below w2.heap.size w2 w3 := bt (by (repeat (first | exact Below.refl _ _ | refine ba ?_ | refine bdr ?_ | refine bs ?_ (by simp)))) hb3
         have B3 : Below w.heap.size w w3 := bt B2 D3
         have b3c0_3 : w3.cell? ⟨w.heap.size, 0, none⟩ = some (.int .i64 x1.rel) := cell_below b3c0_2 D3
         have b3c1_3 : w3.cell? ⟨w.heap.size, 1, none⟩ = some ((.slice p1vals x1.vals.length q1vals)) := cell_below b3c1_2 D3)
      | (go_at_call 17
         with_reducible refine (toFact_any x1 _ _ (intsV.below' h1vals ?_) nx1vals).mono ?_
         · (repeat (first | exact B3 | refine ba ?_ | refine bdr ?_ | refine bs ?_ (by simp)))
         rintro e w4 ⟨d2vvals, d2fvals, rfl, d2hvals_4, d2fr, hb4⟩
         obtain ⟨d2avals, d2cvals, rfl⟩ := slR.form d2hvals_4
         have D4 : Below w3.heap.size w3 w4 := bt (by (repeat (first | exact Below.refl _ _ | refine ba ?_ | refine bdr ?_ | refine bs ?_ (by simp)))) hb4
         have B4 : Below w.heap.size w w4 := bt B3 D4
         have b3c0_4 : w4.cell? ⟨w.heap.size, 0, none⟩ = some (.int .i64 x1.rel) := cell_below b3c0_3 D4
         have b3c1_4 : w4.cell? ⟨w.heap.size, 1, none⟩ = some ((.slice p1vals x1.vals.length q1vals)) := cell_below b3c1_3 D4
         have d1h_4 := d1h_3.below' D4)
      | (go_at_call 49
         with_reducible refine (specAddFact_any _ l0 _ x1 _ _ _ (facts.below' d1h_4 ?_) (ints.below' d2hvals_4 ?_) i1rel nl0 nl0i nx1vals).mono ?_
         · (repeat (first | exact Below.refl _ _ | refine ba ?_ | refine bdr ?_ | refine bs ?_ (by simp)))
         · (repeat (first | exact Below.refl _ _ | refine ba ?_ | refine bdr ?_ | refine bs ?_ (by simp)))
         rintro e w5 ⟨d3v, d3f, rfl, d3h_5, d3fr, hb5⟩
         obtain ⟨d3a, d3c, rfl⟩ := slR.form d3h_5
         have D5 : Below w4.heap.size w4 w5 := bt (by (repeat (first | exact Below.refl _ _ | refine ba ?_ | refine bdr ?_ | refine bs ?_ (by simp)))) hb5
         have B5 : Below w.heap.size w w5 := bt B4 D5
         have b3c0_5 : w5.cell? ⟨w.heap.size, 0, none⟩ = some (.int .i64 x1.rel) := cell_below b3c0_4 D5
         have b3c1_5 : w5.cell? ⟨w.heap.size, 1, none⟩ = some ((.slice p1vals x1.vals.length q1vals)) := cell_below b3c1_4 D5))
  clear b3c0_2 b3c1_2 b3c0_3 b3c1_3 d1h_3 b3c0_4 b3c1_4 d1h_4 d2hvals_4
  go_wp2_with fail
  refine (toFactS_any _ l0 _ (factsV.below' g0 ?_) nl0 nl0i).mono ?_
  · (repeat (first | exact B5 | refine ba ?_ | refine bdr ?_ | refine bs ?_ (by simp)))
  rintro e w6 ⟨d4v, d4f, rfl, d4h_6, d4fr, hb6⟩
  obtain ⟨d4a, d4c, rfl⟩ := slR.form d4h_6
  have d4F : Fresh w5.heap.size (d4f) := d4fr.mono (Below.size (B := w5.heap.size) (by (repeat (first | exact Below.refl _ _ | refine ba ?_ | refine bdr ?_ | refine bs ?_ (by simp)))))
  have Xd3f_d4 : ∀ g ∈ d3f, g ∉ d4f := fun g hg => d4F.notin (d3h_5.lt g hg)
  have d4L : ∀ g ∈ d4f, w.heap.size ≤ g := fun g hg => Nat.le_trans (Below.size B5) (d4F.2 g hg)
  have Nb3_d4 : w.heap.size ∉ d4f := d4F.notin (lt_of_cell b3c0_5)
  have D6 : Below w5.heap.size w5 w6 := bt (by (repeat (first | exact Below.refl _ _ | refine ba ?_ | refine bdr ?_ | refine bs ?_ (by simp)))) hb6
  have B6 : Below w.heap.size w w6 := bt B5 D6
  have b3c0_6 : w6.cell? ⟨w.heap.size, 0, none⟩ = some (.int .i64 x1.rel) := cell_below b3c0_5 D6
  have b3c1_6 : w6.cell? ⟨w.heap.size, 1, none⟩ = some ((.slice p1vals x1.vals.length q1vals)) := cell_below b3c1_5 D6
  have d3h_6 := d3h_5.below' D6
  clear b3c0_5 b3c1_5 d3h_5
  go_wp2_with fail
  refine (toFact_any x1 _ _ (intsV.below' h1vals ?_) nx1vals).mono ?_
  · (repeat (first | exact B6 | refine ba ?_ | refine bdr ?_ | refine bs ?_ (by simp)))
  rintro e w7 ⟨d5vvals, d5fvals, rfl, d5hvals_7, d5fr, hb7⟩
  obtain ⟨d5avals, d5cvals, rfl⟩ := slR.form d5hvals_7
  have d5F : Fresh w6.heap.size (d5fvals) := d5fr.mono (Below.size (B := w6.heap.size) (by (repeat (first | exact Below.refl _ _ | refine ba ?_ | refine bdr ?_ | refine bs ?_ (by simp)))))
  have Xd3f_d5 : ∀ g ∈ d3f, g ∉ d5fvals := fun g hg => d5F.notin (d3h_6.lt g hg)
  have Xd4f_d5 : ∀ g ∈ d4f, g ∉ d5fvals := fun g hg => d5F.notin (d4h_6.lt g hg)
  have d5L : ∀ g ∈ d5fvals, w.heap.size ≤ g := fun g hg => Nat.le_trans (Below.size B6) (d5F.2 g hg)
  have Nb3_d5 : w.heap.size ∉ d5fvals := d5F.notin (lt_of_cell b3c0_6)
  have D7 : Below w6.heap.size w6 w7 := bt (by (repeat (first | exact Below.refl _ _ | refine ba ?_ | refine bdr ?_ | refine bs ?_ (by simp)))) hb7
  have B7 : Below w.heap.size w w7 := bt B6 D7
  have b3c0_7 : w7.cell? ⟨w.heap.size, 0, none⟩ = some (.int .i64 x1.rel) := cell_below b3c0_6 D7
  have b3c1_7 : w7.cell? ⟨w.heap.size, 1, none⟩ = some ((.slice p1vals x1.vals.length q1vals)) := cell_below b3c1_6 D7
  have d3h_7 := d3h_6.below' D7
  have d4h_7 := d4h_6.below' D7
  clear b3c0_6 b3c1_6 d3h_6 d4h_6
  have b3c0_7n := fun o => cell_al b3c0_7 o
  have b3c1_7n := fun o => cell_al b3c1_7 o
  have Nb8_d4 : w7.heap.size ∉ d4f := fun h => Nat.lt_irrefl _ (d4h_7.lt _ h)
  have Nb8_d4 := Nb8_d4
  have Nb8_d5vals : w7.heap.size ∉ d5fvals := fun h => Nat.lt_irrefl _ (d5hvals_7.lt _ h)
  have Nb8_d5 := Nb8_d5vals
  go_wp2_with fail
  refine (implAddFact_any _ l0 _ x1 _ _ _ (facts.below' d4h_7 ?_) (ints.below' d5hvals_7 ?_) i1rel nl0 nl0i nx1vals).mono ?_
  · (repeat (first | exact Below.refl _ _ | refine ba ?_ | refine bdr ?_ | refine bs ?_ (by simp)))
  · (repeat (first | exact Below.refl _ _ | refine ba ?_ | refine bdr ?_ | refine bs ?_ (by simp)))
  rintro e w8 ⟨d6v, d6f, rfl, d6h_8, d6fr, hb8⟩
  obtain ⟨d6a, d6c, rfl⟩ := slR.form d6h_8
  have d6F : Fresh w7.heap.size (d6f) := d6fr.mono (Below.size (B := w7.heap.size) (by (repeat (first | exact Below.refl _ _ | refine ba ?_ | refine bdr ?_ | refine bs ?_ (by simp)))))
  have Xd3f_d6 : ∀ g ∈ d3f, g ∉ d6f := fun g hg => d6F.notin (d3h_7.lt g hg)
  have Xd4f_d6 : ∀ g ∈ d4f, g ∉ d6f := fun g hg => d6F.notin (d4h_7.lt g hg)
  have Xd5fvals_d6 : ∀ g ∈ d5fvals, g ∉ d6f := fun g hg => d6F.notin (d5hvals_7.lt g hg)
  have d6L : ∀ g ∈ d6f, w.heap.size ≤ g := fun g hg => Nat.le_trans (Below.size B7) (d6F.2 g hg)
  have Nb3_d6 : w.heap.size ∉ d6f := d6F.notin (lt_of_cell b3c0_7)
  have Nb8_d6 : w7.heap.size ∉ d6f := d6fr.notin (by simp)
  have D8 : Below w7.heap.size w7 w8 := bt (by (repeat (first | exact Below.refl _ _ | refine ba ?_ | refine bdr ?_ | refine bs ?_ (by simp)))) hb8
  have B8 : Below w.heap.size w w8 := bt B7 D8
  have b3c0_8 : w8.cell? ⟨w.heap.size, 0, none⟩ = some (.int .i64 x1.rel) := cell_below b3c0_7 D8
  have b3c1_8 : w8.cell? ⟨w.heap.size, 1, none⟩ = some ((.slice p1vals x1.vals.length q1vals)) := cell_below b3c1_7 D8
  have b8c0_8 : w8.cell? ⟨w7.heap.size, 0, none⟩ = some (.int .i64 x1.rel) := cell_below (cell_new _ _ _ 0 _ rfl) hb8
  have b8c1_8 : w8.cell? ⟨w7.heap.size, 1, none⟩ = some ((.slice d5avals x1.vals.length d5cvals)) := cell_below (cell_new _ _ _ 1 _ rfl) hb8
  have d3h_8 := d3h_7.below' D8
  have d4h_8 := d4h_7.below' D8
  have d5hvals_8 := d5hvals_7.below' D8
  clear b3c0_7 b3c1_7 d3h_7 d4h_7 d5hvals_7 b3c0_7n b3c1_7n
  go_wp2_with fail
  refine (eqFactS_any _ _ (addFactL l0 x1) (addFactL l0 x1) _ _ _ (facts.below' d6h_8 ?_) (facts.below' d3h_8 ?_)).mono ?_
  · (repeat (first | exact Below.refl _ _ | refine ba ?_ | refine bdr ?_ | refine bs ?_ (by simp)))
  · (repeat (first | exact Below.refl _ _ | refine ba ?_ | refine bdr ?_ | refine bs ?_ (by simp)))
  rintro e w9 ⟨rfl, hb9⟩
  have D9 : Below w8.heap.size w8 w9 := bt (by (repeat (first | exact Below.refl _ _ | refine ba ?_ | refine bdr ?_ | refine bs ?_ (by simp)))) hb9
  have B9 : Below w.heap.size w w9 := bt B8 D9
  have b3c0_9 : w9.cell? ⟨w.heap.size, 0, none⟩ = some (.int .i64 x1.rel) := cell_below b3c0_8 D9
  have b3c1_9 : w9.cell? ⟨w.heap.size, 1, none⟩ = some ((.slice p1vals x1.vals.length q1vals)) := cell_below b3c1_8 D9
  have b8c0_9 : w9.cell? ⟨w7.heap.size, 0, none⟩ = some (.int .i64 x1.rel) := cell_below b8c0_8 D9
  have b8c1_9 : w9.cell? ⟨w7.heap.size, 1, none⟩ = some ((.slice d5avals x1.vals.length d5cvals)) := cell_below b8c1_8 D9
  have d3h_9 := d3h_8.below' D9
  have d4h_9 := d4h_8.below' D9
  have d5hvals_9 := d5hvals_8.below' D9
  have d6h_9 := d6h_8.below' D9
  clear b3c0_8 b3c1_8 b8c0_8 b8c1_8 d3h_8 d4h_8 d5hvals_8 d6h_8
  go_wp2_with fail
  refine (toFactS_any _ l0 _ (factsV.below' g0 ?_) nl0 nl0i).mono ?_
  · (repeat (first | exact B9 | refine ba ?_ | refine bdr ?_ | refine bs ?_ (by simp)))
  rintro e w10 ⟨d7v, d7f, rfl, d7h_10, d7fr, hb10⟩
  obtain ⟨d7a, d7c, rfl⟩ := slR.form d7h_10
  have d7F : Fresh w9.heap.size (d7f) := d7fr.mono (Below.size (B := w9.heap.size) (by (repeat (first | exact Below.refl _ _ | refine ba ?_ | refine bdr ?_ | refine bs ?_ (by simp)))))
  have Xd4f_d7 : ∀ g ∈ d4f, g ∉ d7f := fun g hg => d7F.notin (d4h_9.lt g hg)
  have Xd5fvals_d7 : ∀ g ∈ d5fvals, g ∉ d7f := fun g hg => d7F.notin (d5hvals_9.lt g hg)
  have Xd6f_d7 : ∀ g ∈ d6f, g ∉ d7f := fun g hg => d7F.notin (d6h_9.lt g hg)
  have D10 : Below w9.heap.size w9 w10 := bt (by (repeat (first | exact Below.refl _ _ | refine ba ?_ | refine bdr ?_ | refine bs ?_ (by simp)))) hb10
  have B10 : Below w.heap.size w w10 := bt B9 D10
  have b3c0_10 : w10.cell? ⟨w.heap.size, 0, none⟩ = some (.int .i64 x1.rel) := cell_below b3c0_9 D10
  have b3c1_10 : w10.cell? ⟨w.heap.size, 1, none⟩ = some ((.slice p1vals x1.vals.length q1vals)) := cell_below b3c1_9 D10
  have b8c0_10 : w10.cell? ⟨w7.heap.size, 0, none⟩ = some (.int .i64 x1.rel) := cell_below b8c0_9 D10
  have b8c1_10 : w10.cell? ⟨w7.heap.size, 1, none⟩ = some ((.slice d5avals x1.vals.length d5cvals)) := cell_below b8c1_9 D10
  have d3h_10 := d3h_9.below' D10
  have d4h_10 := d4h_9.below' D10
  have d5hvals_10 := d5hvals_9.below' D10
  have d6h_10 := d6h_9.below' D10
  clear b3c0_9 b3c1_9 b8c0_9 b8c1_9 d3h_9 d4h_9 d5hvals_9 d6h_9
  go_wp2_with fail
  refine (eqFactS_any _ _ l0 l0 _ _ _ (facts.below' d4h_10 ?_) (facts.below' d7h_10 ?_)).mono ?_
  · (repeat (first | exact Below.refl _ _ | refine ba ?_ | refine bdr ?_ | refine bs ?_ (by simp)))
  · (repeat (first | exact Below.refl _ _ | refine ba ?_ | refine bdr ?_ | refine bs ?_ (by simp)))
  rintro e w11 ⟨rfl, hb11⟩
  have D11 : Below w10.heap.size w10 w11 := bt (by (repeat (first | exact Below.refl _ _ | refine ba ?_ | refine bdr ?_ | refine bs ?_ (by simp)))) hb11
  have B11 : Below w.heap.size w w11 := bt B10 D11
  have b3c0_11 : w11.cell? ⟨w.heap.size, 0, none⟩ = some (.int .i64 x1.rel) := cell_below b3c0_10 D11
  have b3c1_11 : w11.cell? ⟨w.heap.size, 1, none⟩ = some ((.slice p1vals x1.vals.length q1vals)) := cell_below b3c1_10 D11
  have b8c0_11 : w11.cell? ⟨w7.heap.size, 0, none⟩ = some (.int .i64 x1.rel) := cell_below b8c0_10 D11
  have b8c1_11 : w11.cell? ⟨w7.heap.size, 1, none⟩ = some ((.slice d5avals x1.vals.length d5cvals)) := cell_below b8c1_10 D11
  have d3h_11 := d3h_10.below' D11
  have d4h_11 := d4h_10.below' D11
  have d5hvals_11 := d5hvals_10.below' D11
  have d6h_11 := d6h_10.below' D11
  clear b3c0_10 b3c1_10 b8c0_10 b8c1_10 d3h_10 d4h_10 d5hvals_10 d6h_10 d7h_10
  go_wp2_with fail
  go_region_held3 (fun w' => w'.cell? ⟨w7.heap.size, 0, none⟩ = some (.int .i64 x1.rel) ∧ w'.cell? ⟨w7.heap.size, 1, none⟩ = some ((.slice d5avals x1.vals.length d5cvals)) ∧ w'.cell? ⟨w.heap.size, 0, none⟩ = some (.int .i64 x1.rel) ∧ w'.cell? ⟨w.heap.size, 1, none⟩ = some ((.slice p1vals x1.vals.length q1vals))) (first | exact ⟨b8c0_11, b8c1_11, b3c0_11, b3c1_11⟩ | exact ⟨b8c0_12, b8c1_12, b3c0_12, b3c1_12⟩ | exact ⟨b8c0_13, b8c1_13, b3c0_13, b3c1_13⟩)
    (first
      | (go_at_call 17
         with_reducible refine (toFact_any x1 _ _ (intsV.below' h1vals ?_) nx1vals).mono ?_
         · (repeat (first | exact B11 | refine ba ?_ | refine bdr ?_ | refine bs ?_ (by simp)))
         rintro e w12 ⟨d8vvals, d8fvals, rfl, d8hvals_12, d8fr, hb12⟩
         obtain ⟨d8avals, d8cvals, rfl⟩ := slR.form d8hvals_12
         have d8F : Fresh w11.heap.size (d8fvals) := d8fr.mono (Below.size (B := w11.heap.size) (by (repeat (first | exact Below.refl _ _ | refine ba ?_ | refine bdr ?_ | refine bs ?_ (by simp)))))
         have Xd4f_d8 : ∀ g ∈ d4f, g ∉ d8fvals := fun g hg => d8F.notin (d4h_11.lt g hg)
         have Xd5fvals_d8 : ∀ g ∈ d5fvals, g ∉ d8fvals := fun g hg => d8F.notin (d5hvals_11.lt g hg)
         have Xd6f_d8 : ∀ g ∈ d6f, g ∉ d8fvals := fun g hg => d8F.notin (d6h_11.lt g hg)
         have D12 : Below w11.heap.size w11 w12 := bt (by (repeat (first | exact Below.refl _ _ | refine ba ?_ | refine bdr ?_ | refine bs ?_ (by simp)))) hb12
         have B12 : Below w.heap.size w w12 := bt B11 D12
         have b3c0_12 : w12.cell? ⟨w.heap.size, 0, none⟩ = some (.int .i64 x1.rel) := cell_below b3c0_11 D12
         have b3c1_12 : w12.cell? ⟨w.heap.size, 1, none⟩ = some ((.slice p1vals x1.vals.length q1vals)) := cell_below b3c1_11 D12
         have b8c0_12 : w12.cell? ⟨w7.heap.size, 0, none⟩ = some (.int .i64 x1.rel) := cell_below b8c0_11 D12
         have b8c1_12 : w12.cell? ⟨w7.heap.size, 1, none⟩ = some ((.slice d5avals x1.vals.length d5cvals)) := cell_below b8c1_11 D12
         have d3h_12 := d3h_11.below' D12
         have d4h_12 := d4h_11.below' D12
         have d5hvals_12 := d5hvals_11.below' D12
         have d6h_12 := d6h_11.below' D12)
      | (go_at_call 21
         with_reducible refine (eqFact_any x1 x1 _ _ _ _ _ (ints.below' d5hvals_12 ?_) (ints.below' d8hvals_12 ?_)).mono ?_
         · (repeat (first | exact Below.refl _ _ | refine ba ?_ | refine bdr ?_ | refine bs ?_ (by simp)))
         · (repeat (first | exact Below.refl _ _ | refine ba ?_ | refine bdr ?_ | refine bs ?_ (by simp)))
         rintro e w13 ⟨rfl, hb13⟩
         have D13 : Below w12.heap.size w12 w13 := bt (by (repeat (first | exact Below.refl _ _ | refine ba ?_ | refine bdr ?_ | refine bs ?_ (by simp)))) hb13
         have B13 : Below w.heap.size w w13 := bt B12 D13
         have b3c0_13 : w13.cell? ⟨w.heap.size, 0, none⟩ = some (.int .i64 x1.rel) := cell_below b3c0_12 D13
         have b3c1_13 : w13.cell? ⟨w.heap.size, 1, none⟩ = some ((.slice p1vals x1.vals.length q1vals)) := cell_below b3c1_12 D13
         have b8c0_13 : w13.cell? ⟨w7.heap.size, 0, none⟩ = some (.int .i64 x1.rel) := cell_below b8c0_12 D13
         have b8c1_13 : w13.cell? ⟨w7.heap.size, 1, none⟩ = some ((.slice d5avals x1.vals.length d5cvals)) := cell_below b8c1_12 D13
         have d3h_13 := d3h_12.below' D13
         have d4h_13 := d4h_12.below' D13
         have d5hvals_13 := d5hvals_12.below' D13
         have d6h_13 := d6h_12.below' D13))
  clear b3c0_11 b3c1_11 b8c0_11 b8c1_11 d3h_11 d4h_11 d5hvals_11 d6h_11 b3c0_12 b3c1_12 b8c0_12 b8c1_12 d3h_12 d4h_12 d5hvals_12 d6h_12 d8hvals_12
  go_wp2_with fail
  refine (markFactS_any _ l0 d4f (1) _ (facts.below' d4h_13 ?_) d4F.1 (by omega) (by omega)).mono ?_
  · (repeat (first | exact Below.refl _ _ | refine ba ?_ | refine bdr ?_ | refine bs ?_ (by simp)))
  rintro e w14 ⟨rfl, d4hm, hw14⟩
  have B14 : Below w.heap.size w w14 := bw B13 hw14 d4L
  have b3c0_14 : w14.cell? ⟨w.heap.size, 0, none⟩ = some (.int .i64 x1.rel) := (hw14.cellAt (lt_of_cell b3c0_13) Nb3_d4).trans b3c0_13
  have b3c1_14 : w14.cell? ⟨w.heap.size, 1, none⟩ = some ((.slice p1vals x1.vals.length q1vals)) := (hw14.cellAt (lt_of_cell b3c1_13) Nb3_d4).trans b3c1_13
  have b8c0_14 : w14.cell? ⟨w7.heap.size, 0, none⟩ = some (.int .i64 x1.rel) := (hw14.cellAt (lt_of_cell b8c0_13) Nb8_d4).trans b8c0_13
  have b8c1_14 : w14.cell? ⟨w7.heap.size, 1, none⟩ = some ((.slice d5avals x1.vals.length d5cvals)) := (hw14.cellAt (lt_of_cell b8c1_13) Nb8_d4).trans b8c1_13
  have d3h_14 := facts.frame d3h_13 fun g hg => hw14.block g (d3h_13.lt g hg) (Xd3f_d4 g hg)
  have d5hvals_14 := ints.frame d5hvals_13 fun g hg => hw14.block g (d5hvals_13.lt g hg) ((fun hgx => Xd4f_d5 g hgx (by simp [hg])))
  have d6h_14 := facts.frame d6h_13 fun g hg => hw14.block g (d6h_13.lt g hg) ((fun hgx => Xd4f_d6 g hgx (by simp [hg])))
  clear b3c0_13 b3c1_13 b8c0_13 b8c1_13 d3h_13 d4h_13 d5hvals_13 d6h_13
  go_wp2_with fail
  refine (markFact_any x1 _ d5fvals (1 + ((l0.map cntFact).sum : Nat)) _ (ints.below' d5hvals_14 ?_) d5F.1 (by omega) (by omega)).mono ?_
  · (repeat (first | exact Below.refl _ _ | refine ba ?_ | refine bdr ?_ | refine bs ?_ (by simp)))
  rintro e w15 ⟨rfl, d5hvalsm, hw15⟩
  have B15 : Below w.heap.size w w15 := bw B14 hw15 d5L
  have b3c0_15 : w15.cell? ⟨w.heap.size, 0, none⟩ = some (.int .i64 x1.rel) := (hw15.cellAt (lt_of_cell b3c0_14) Nb3_d5).trans b3c0_14
  have b3c1_15 : w15.cell? ⟨w.heap.size, 1, none⟩ = some ((.slice p1vals x1.vals.length q1vals)) := (hw15.cellAt (lt_of_cell b3c1_14) Nb3_d5).trans b3c1_14
  have d3h_15 := facts.frame d3h_14 fun g hg => hw15.block g (d3h_14.lt g hg) (Xd3f_d5 g hg)
  have d6h_15 := facts.frame d6h_14 fun g hg => hw15.block g (d6h_14.lt g hg) ((fun hgx => Xd5fvals_d6 g hgx (by simp [hg])))
  clear b3c0_14 b3c1_14 b8c0_14 b8c1_14 d3h_14 d5hvals_14 d6h_14
  go_wp2_with fail
  refine (eqFactS_any _ _ (addFactL l0 x1) (addFactL l0 x1) _ _ _ (facts.below' d6h_15 ?_) (facts.below' d3h_15 ?_)).mono ?_
  · (repeat (first | exact Below.refl _ _ | refine ba ?_ | refine bdr ?_ | refine bs ?_ (by simp)))
  · (repeat (first | exact Below.refl _ _ | refine ba ?_ | refine bdr ?_ | refine bs ?_ (by simp)))
  rintro e w16 ⟨rfl, hb16⟩
  have D16 : Below w15.heap.size w15 w16 := bt (by (repeat (first | exact Below.refl _ _ | refine ba ?_ | refine bdr ?_ | refine bs ?_ (by simp)))) hb16
  have B16 : Below w.heap.size w w16 := bt B15 D16
  have b3c0_16 : w16.cell? ⟨w.heap.size, 0, none⟩ = some (.int .i64 x1.rel) := cell_below b3c0_15 D16
  have b3c1_16 : w16.cell? ⟨w.heap.size, 1, none⟩ = some ((.slice p1vals x1.vals.length q1vals)) := cell_below b3c1_15 D16
  have d3h_16 := d3h_15.below' D16
  have d6h_16 := d6h_15.below' D16
  clear b3c0_15 b3c1_15 d3h_15 d6h_15
  go_wp2_with fail
  refine (markFactS_any _ (addFactL l0 x1) d6f (1) _ (facts.below' d6h_16 ?_) d6F.1 (by omega) (by omega)).mono ?_
  · (repeat (first | exact Below.refl _ _ | refine ba ?_ | refine bdr ?_ | refine bs ?_ (by simp)))
  rintro e w17 ⟨rfl, d6hm, hw17⟩
  have B17 : Below w.heap.size w w17 := bw B16 hw17 d6L
  have b3c0_17 : w17.cell? ⟨w.heap.size, 0, none⟩ = some (.int .i64 x1.rel) := (hw17.cellAt (lt_of_cell b3c0_16) Nb3_d6).trans b3c0_16
  have b3c1_17 : w17.cell? ⟨w.heap.size, 1, none⟩ = some ((.slice p1vals x1.vals.length q1vals)) := (hw17.cellAt (lt_of_cell b3c1_16) Nb3_d6).trans b3c1_16
  have d3h_17 := facts.frame d3h_16 fun g hg => hw17.block g (d3h_16.lt g hg) (Xd3f_d6 g hg)
  have d6h_17 := d6hm
  clear b3c0_16 b3c1_16 d3h_16 d6h_16
  go_wp2_with fail
  refine (heldFactS_any _ (addFactL l0 x1) _ (1) _ (facts.below' d6h_17 ?_) (by omega) (by omega)).mono ?_
  · (repeat (first | exact Below.refl _ _ | refine ba ?_ | refine bdr ?_ | refine bs ?_ (by simp)))
  rintro e w18 ⟨rfl, hb18⟩
  have D18 : Below w17.heap.size w17 w18 := bt (by (repeat (first | exact Below.refl _ _ | refine ba ?_ | refine bdr ?_ | refine bs ?_ (by simp)))) hb18
  have B18 : Below w.heap.size w w18 := bt B17 D18
  have b3c0_18 : w18.cell? ⟨w.heap.size, 0, none⟩ = some (.int .i64 x1.rel) := cell_below b3c0_17 D18
  have b3c1_18 : w18.cell? ⟨w.heap.size, 1, none⟩ = some ((.slice p1vals x1.vals.length q1vals)) := cell_below b3c1_17 D18
  have d3h_18 := d3h_17.below' D18
  have d6h_18 := d6h_17.below' D18
  clear b3c0_17 b3c1_17 d3h_17 d6h_17
  go_wp2_with fail
  go_region_held3 (fun w' => w'.cell? ⟨w.heap.size, 0, none⟩ = some (.int .i64 x1.rel) ∧ w'.cell? ⟨w.heap.size, 1, none⟩ = some ((.slice p1vals x1.vals.length q1vals))) (first | exact ⟨b3c0_18, b3c1_18⟩ | exact ⟨b3c0_19, b3c1_19⟩ | exact ⟨b3c0_20, b3c1_20⟩ | exact ⟨b3c0_21, b3c1_21⟩)
    (first
      | (go_at_call 40
         with_reducible refine (toFactS_any _ l0 _ (factsV.below' g0 ?_) nl0 nl0i).mono ?_
         · (repeat (first | exact B18 | refine ba ?_ | refine bdr ?_ | refine bs ?_ (by simp)))
         rintro e w19 ⟨d9v, d9f, rfl, d9h_19, d9fr, hb19⟩
         obtain ⟨d9a, d9c, rfl⟩ := slR.form d9h_19
         have D19 : Below w18.heap.size w18 w19 := bt (by (repeat (first | exact Below.refl _ _ | refine ba ?_ | refine bdr ?_ | refine bs ?_ (by simp)))) hb19
         have B19 : Below w.heap.size w w19 := bt B18 D19
         have b3c0_19 : w19.cell? ⟨w.heap.size, 0, none⟩ = some (.int .i64 x1.rel) := cell_below b3c0_18 D19
         have b3c1_19 : w19.cell? ⟨w.heap.size, 1, none⟩ = some ((.slice p1vals x1.vals.length q1vals)) := cell_below b3c1_18 D19
         have d3h_19 := d3h_18.below' D19
         have d6h_19 := d6h_18.below' D19)
      | (go_at_call 17
         with_reducible refine (toFact_any x1 _ _ (intsV.below' h1vals ?_) nx1vals).mono ?_
         · (repeat (first | exact B19 | refine ba ?_ | refine bdr ?_ | refine bs ?_ (by simp)))
         rintro e w20 ⟨d10vvals, d10fvals, rfl, d10hvals_20, d10fr, hb20⟩
         obtain ⟨d10avals, d10cvals, rfl⟩ := slR.form d10hvals_20
         have D20 : Below w19.heap.size w19 w20 := bt (by (repeat (first | exact Below.refl _ _ | refine ba ?_ | refine bdr ?_ | refine bs ?_ (by simp)))) hb20
         have B20 : Below w.heap.size w w20 := bt B19 D20
         have b3c0_20 : w20.cell? ⟨w.heap.size, 0, none⟩ = some (.int .i64 x1.rel) := cell_below b3c0_19 D20
         have b3c1_20 : w20.cell? ⟨w.heap.size, 1, none⟩ = some ((.slice p1vals x1.vals.length q1vals)) := cell_below b3c1_19 D20
         have d3h_20 := d3h_19.below' D20
         have d6h_20 := d6h_19.below' D20
         have d9h_20 := d9h_19.below' D20)
      | (go_at_call 50
         with_reducible refine (implAddFact_any _ l0 _ x1 _ _ _ (facts.below' d9h_20 ?_) (ints.below' d10hvals_20 ?_) i1rel nl0 nl0i nx1vals).mono ?_
         · (repeat (first | exact Below.refl _ _ | refine ba ?_ | refine bdr ?_ | refine bs ?_ (by simp)))
         · (repeat (first | exact Below.refl _ _ | refine ba ?_ | refine bdr ?_ | refine bs ?_ (by simp)))
         rintro e w21 ⟨d11v, d11f, rfl, d11h_21, d11fr, hb21⟩
         obtain ⟨d11a, d11c, rfl⟩ := slR.form d11h_21
         have D21 : Below w20.heap.size w20 w21 := bt (by (repeat (first | exact Below.refl _ _ | refine ba ?_ | refine bdr ?_ | refine bs ?_ (by simp)))) hb21
         have B21 : Below w.heap.size w w21 := bt B20 D21
         have b3c0_21 : w21.cell? ⟨w.heap.size, 0, none⟩ = some (.int .i64 x1.rel) := cell_below b3c0_20 D21
         have b3c1_21 : w21.cell? ⟨w.heap.size, 1, none⟩ = some ((.slice p1vals x1.vals.length q1vals)) := cell_below b3c1_20 D21
         have d3h_21 := d3h_20.below' D21
         have d6h_21 := d6h_20.below' D21))
  clear b3c0_18 b3c1_18 d3h_18 d6h_18 b3c0_19 b3c1_19 d3h_19 d6h_19 d9h_19 b3c0_20 b3c1_20 d3h_20 d6h_20 d9h_20 d10hvals_20
  go_wp2_with fail
  refine (eqFactS_any _ _ (addFactL l0 x1) (addFactL l0 x1) _ _ _ (facts.below' d11h_21 ?_) (facts.below' d3h_21 ?_)).mono ?_
  · (repeat (first | exact Below.refl _ _ | refine ba ?_ | refine bdr ?_ | refine bs ?_ (by simp)))
  · (repeat (first | exact Below.refl _ _ | refine ba ?_ | refine bdr ?_ | refine bs ?_ (by simp)))
  rintro e w22 ⟨rfl, hb22⟩
  have D22 : Below w21.heap.size w21 w22 := bt (by (repeat (first | exact Below.refl _ _ | refine ba ?_ | refine bdr ?_ | refine bs ?_ (by simp)))) hb22
  have B22 : Below w.heap.size w w22 := bt B21 D22
  have b3c0_22 : w22.cell? ⟨w.heap.size, 0, none⟩ = some (.int .i64 x1.rel) := cell_below b3c0_21 D22
  have b3c1_22 : w22.cell? ⟨w.heap.size, 1, none⟩ = some ((.slice p1vals x1.vals.length q1vals)) := cell_below b3c1_21 D22
  have d6h_22 := d6h_21.below' D22
  clear b3c0_21 b3c1_21 d3h_21 d6h_21 d11h_21
  go_wp2_with fail
  refine (heldFactS_any _ (addFactL l0 x1) _ (1) _ (facts.below' d6h_22 ?_) (by omega) (by omega)).mono ?_
  · (repeat (first | exact Below.refl _ _ | refine ba ?_ | refine bdr ?_ | refine bs ?_ (by simp)))
  rintro e w23 ⟨rfl, hb23⟩
  have D23 : Below w22.heap.size w22 w23 := bt (by (repeat (first | exact Below.refl _ _ | refine ba ?_ | refine bdr ?_ | refine bs ?_ (by simp)))) hb23
  have B23 : Below w.heap.size w w23 := bt B22 D23
  clear b3c0_22 b3c1_22 d6h_22
  go_wp2
  go_ret
  exact ⟨rfl, B23⟩
end Go.Proofs.Ytjjkfhjkfoikbaa
