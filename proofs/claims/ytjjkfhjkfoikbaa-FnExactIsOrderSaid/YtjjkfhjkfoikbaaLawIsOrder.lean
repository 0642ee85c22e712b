/- The walk of the law FnExactIsOrder: it returns true, whatever the input. -/
import Derived.Test.YtjjkfhjkfoikbaaOrdS
import Derived.Test.YtjjkfhjkfoikbaaOrdI
import Derived.Test.YtjjkfhjkfoikbaaVarsB
import Derived.Test.YtjjkfhjkfoikbaaHStep
import Derived.Test.YtjjkfhjkfoikbaaHQuery
import Derived.Test.YtjjkfhjkfoikbaaHMeth
import Derived.Test.YtjjkfhjkfoikbaaFacts0
namespace Go.Proofs.Ytjjkfhjkfoikbaa
open Go.RowKit
set_option linter.unusedVariables false
set_option linter.unusedSimpArgs false
set_option maxRecDepth 100000 in
set_option maxHeartbeats 8000000 in
theorem fnExactIsOrder_walk (v0 : Value) (l0 : List Int) (v1 : Value) (l1 : List MethD) (cs2 : List Value) (x2 : QueryD) (v3 : Value) (l3 : List StepD) (w : World) (g0 : intsV w v0 l0) (g1 : methsV w v1 l1) (g2 : queryW w cs2 x2) (g3 : stepsV w v3 l3)  :
    Calls Try.prog 10 #[v0, v1, .agg cs2.toArray, v3] w fun e w' => e = .returned (.bool true) ∧ Below w.heap.size w w' := by
  obtain ⟨p0, q0, rfl⟩ := slW.form g0
  obtain ⟨p1, q1, rfl⟩ := slW.form g1
  obtain ⟨v2head, v2atoms, rfl, h2head, h2atoms⟩ := g2
  obtain ⟨p2head, q2head, rfl⟩ := slW.form h2head
  obtain ⟨p2atoms, q2atoms, rfl⟩ := slW.form h2atoms
  obtain ⟨p3, q3, rfl⟩ := slW.form g3
  have b6c0_0 : (w.alloc (.cells #[(.slice p2head x2.head.length q2head), (.slice p2atoms x2.atoms.length q2atoms)] 58)).cell? ⟨w.heap.size, 0, none⟩ = some ((.slice p2head x2.head.length q2head)) := cell_new w _ _ 0 _ rfl
  have b6c1_0 : (w.alloc (.cells #[(.slice p2head x2.head.length q2head), (.slice p2atoms x2.atoms.length q2atoms)] 58)).cell? ⟨w.heap.size, 1, none⟩ = some ((.slice p2atoms x2.atoms.length q2atoms)) := cell_new w _ _ 1 _ rfl
  by_cases n0 : l0.length ≤ 1048576
  case neg =>
    go_enter Try.func10, Try.ntmps10
    go_wp2
    go_ret
    exact ⟨rfl, by (repeat (first | exact Below.refl _ _ | refine ba ?_ | refine bdr ?_ | refine bs ?_ (by simp)))⟩
  have rr : (orderB l0 l1 x2 l3 != orderB l0 l1 x2 l3) = false := by simp
  have rd0 : decide (l0 = l0) = true := by simp
  have rd1 : decide (l1 = l1) = true := by simp
  have rd2 : decide (x2 = x2) = true := by simp
  have rd3 : decide (l3 = l3) = true := by simp
  go_enter Try.func10, Try.ntmps10
  go_wp2_with fail
  refine (szMethodS_any _ l1 (1048576) _ (methsV.below' g1 ?_) ⟨by omega, by omega⟩).mono ?_
  · (repeat (first | exact Below.refl _ _ | refine ba ?_ | refine bdr ?_ | refine bs ?_ (by simp)))
  rintro e w1 ⟨rfl, hb1⟩
  have D1 : Below w.heap.size w w1 := bt (by (repeat (first | exact Below.refl _ _ | refine ba ?_ | refine bdr ?_ | refine bs ?_ (by simp)))) hb1
  have B1 : Below w.heap.size w w1 := D1
  have b6c0_1 : w1.cell? ⟨w.heap.size, 0, none⟩ = some ((.slice p2head x2.head.length q2head)) := cell_below (b6c0_0) hb1
  have b6c1_1 : w1.cell? ⟨w.heap.size, 1, none⟩ = some ((.slice p2atoms x2.atoms.length q2atoms)) := cell_below (b6c1_0) hb1
  clear b6c0_0 b6c1_0
  rcases left_cases (bulkMethodS l1) (1048576) (by omega) with ⟨t0, t1⟩ | ⟨t0, t1⟩
  case inl =>
    have T1 := Lib.hid t1; clear t1
    go_wp2
    go_ret
    exact ⟨rfl, B1⟩
  have T1 := Lib.hid t1; clear t1
  obtain ⟨ql1, el11, el12⟩ := left_bd t0 (by omega) (by omega)
  clear t0
  have nl1 : l1.length ≤ 1048576 := by have h9 := ql1; unfold bulkMethodS at h9; omega
  have nl1i : ∀ y ∈ l1, y.inputs.length ≤ 1048576 := fun y hy => by have h9 := ql1; unfold bulkMethodS at h9; have h8 := sum_ge_mem (f := fun x => bulkMethod x) hy; unfold bulkMethod at h8 h9; omega
  go_wp2_with fail
  refine (szQuery_any x2 _ _ (left (bulkMethodS l1) (1048576)) _ (intsV.below' h2head ?_) (atomsV.below' h2atoms ?_) ⟨by omega, by omega⟩).mono ?_
  · (repeat (first | exact B1 | refine ba ?_ | refine bdr ?_ | refine bs ?_ (by simp)))
  · (repeat (first | exact B1 | refine ba ?_ | refine bdr ?_ | refine bs ?_ (by simp)))
  rintro e w2 ⟨rfl, hb2⟩
  have D2 : Below w1.heap.size w1 w2 := bt (by (repeat (first | exact Below.refl _ _ | refine ba ?_ | refine bdr ?_ | refine bs ?_ (by simp)))) hb2
  have B2 : Below w.heap.size w w2 := bt B1 D2
  have b6c0_2 : w2.cell? ⟨w.heap.size, 0, none⟩ = some ((.slice p2head x2.head.length q2head)) := cell_below b6c0_1 D2
  have b6c1_2 : w2.cell? ⟨w.heap.size, 1, none⟩ = some ((.slice p2atoms x2.atoms.length q2atoms)) := cell_below b6c1_1 D2
  clear b6c0_1 b6c1_1
  rcases left_cases (bulkQuery x2) (left (bulkMethodS l1) (1048576)) (by omega) with ⟨t0, t1⟩ | ⟨t0, t1⟩
  case inl =>
    have T1 := Lib.hid t1; clear t1
    go_wp2
    go_ret
    exact ⟨rfl, B2⟩
  have T2 := Lib.hid t1; clear t1
  obtain ⟨qx2, ex21, ex22⟩ := left_bd t0 (by omega) (by omega)
  clear t0
  have nx2head : x2.head.length ≤ 1048576 := by have h9 := qx2; unfold bulkQuery at h9; omega
  have nx2atoms : x2.atoms.length ≤ 1048576 := by have h9 := qx2; unfold bulkQuery bulkAtomS at h9; omega
  have nx2atomsi : ∀ y ∈ x2.atoms, y.terms.length ≤ 1048576 := fun y hy => by have h9 := qx2; unfold bulkQuery bulkAtomS at h9; have h8 := sum_ge_mem (f := fun x => bulkAtom x) hy; unfold bulkAtom at h8 h9; omega
  have nT : (termsL x2.atoms).length ≤ 1048576 := termsL_bulk qx2
  go_wp2_with fail
  refine (eB (szStepS_any _ l3 (left (bulkQuery x2) (left (bulkMethodS l1) (1048576))) _ (stepsV.below' g3 ?_) ⟨by omega, by omega⟩)).mono ?_
  · (repeat (first | exact B2 | refine ba ?_ | refine bdr ?_ | refine bs ?_ (by simp)))
  rintro e w3 ⟨rfl, hb3⟩
  have D3 : Below w2.heap.size w2 w3 := bt (by (repeat (first | exact Below.refl _ _ | refine ba ?_ | refine bdr ?_ | refine bs ?_ (by simp)))) hb3
  have B3 : Below w.heap.size w w3 := bt B2 D3
  have b6c0_3 : w3.cell? ⟨w.heap.size, 0, none⟩ = some ((.slice p2head x2.head.length q2head)) := cell_below b6c0_2 D3
  have b6c1_3 : w3.cell? ⟨w.heap.size, 1, none⟩ = some ((.slice p2atoms x2.atoms.length q2atoms)) := cell_below b6c1_2 D3
  clear b6c0_2 b6c1_2
  rcases left_cases l3.length (left (bulkQuery x2) (left (bulkMethodS l1) (1048576))) (by omega) with ⟨t0, t1⟩ | ⟨t0, t1⟩
  case inl =>
    have T1 := Lib.hid t1; clear t1
    go_wp2
    go_ret
    exact ⟨rfl, B3⟩
  have T3 := Lib.hid t1; clear t1
  obtain ⟨ql3, el31, el32⟩ := left_bd t0 (by omega) (by omega)
  clear t0
  have nl3 : l3.length ≤ 1048576 := ql3
  go_wp2_with fail
  go_region_held3 (fun w' => w'.cell? ⟨w.heap.size, 0, none⟩ = some ((.slice p2head x2.head.length q2head)) ∧ w'.cell? ⟨w.heap.size, 1, none⟩ = some ((.slice p2atoms x2.atoms.length q2atoms))) (first | exact ⟨b6c0_3, b6c1_3⟩ | exact ⟨b6c0_4, b6c1_4⟩ | exact ⟨b6c0_5, b6c1_5⟩ | exact ⟨b6c0_6, b6c1_6⟩ | exact ⟨b6c0_7, b6c1_7⟩ | exact ⟨b6c0_8, b6c1_8⟩)
    (first
      | (go_at_call 29
         with_reducible refine (toIntS_any _ l0 _ (intsV.below' g0 ?_) n0).mono ?_
         · (repeat (first | exact B3 | refine ba ?_ | refine bdr ?_ | refine bs ?_ (by simp)))
         rintro e w4 ⟨d1v, d1f, rfl, d1h_4, d1fr, hb4⟩
         obtain ⟨d1a, d1c, rfl⟩ := slR.form d1h_4
         have D4 : Below w3.heap.size w3 w4 := bt (by (repeat (first | exact Below.refl _ _ | refine ba ?_ | refine bdr ?_ | refine bs ?_ (by simp)))) hb4
         have B4 : Below w.heap.size w w4 := bt B3 D4
         have b6c0_4 : w4.cell? ⟨w.heap.size, 0, none⟩ = some ((.slice p2head x2.head.length q2head)) := cell_below b6c0_3 D4
         have b6c1_4 : w4.cell? ⟨w.heap.size, 1, none⟩ = some ((.slice p2atoms x2.atoms.length q2atoms)) := cell_below b6c1_3 D4)
      | (go_at_call 55
         with_reducible refine (toMethodS_any _ l1 _ (methsV.below' g1 ?_) nl1 nl1i).mono ?_
         · (repeat (first | exact B4 | refine ba ?_ | refine bdr ?_ | refine bs ?_ (by simp)))
         rintro e w5 ⟨d2v, d2f, rfl, d2h_5, d2fr, hb5⟩
         obtain ⟨d2a, d2c, rfl⟩ := slR.form d2h_5
         have D5 : Below w4.heap.size w4 w5 := bt (by (repeat (first | exact Below.refl _ _ | refine ba ?_ | refine bdr ?_ | refine bs ?_ (by simp)))) hb5
         have B5 : Below w.heap.size w w5 := bt B4 D5
         have b6c0_5 : w5.cell? ⟨w.heap.size, 0, none⟩ = some ((.slice p2head x2.head.length q2head)) := cell_below b6c0_4 D5
         have b6c1_5 : w5.cell? ⟨w.heap.size, 1, none⟩ = some ((.slice p2atoms x2.atoms.length q2atoms)) := cell_below b6c1_4 D5
         have d1h_5 := d1h_4.below' D5)
      | (go_at_call 39
         with_reducible refine (toQuery_any x2 _ _ _ (intsV.below' h2head ?_) nx2head (atomsV.below' h2atoms ?_) nx2atoms nx2atomsi).mono ?_
         · (repeat (first | exact B5 | refine ba ?_ | refine bdr ?_ | refine bs ?_ (by simp)))
         · (repeat (first | exact B5 | refine ba ?_ | refine bdr ?_ | refine bs ?_ (by simp)))
         rintro e w6 ⟨d3vhead, d3vatoms, d3fhead, d3fatoms, rfl, d3hhead_6, d3hatoms_6, d3fr, hb6⟩
         obtain ⟨d3ahead, d3chead, rfl⟩ := slR.form d3hhead_6
         obtain ⟨d3aatoms, d3catoms, rfl⟩ := slR.form d3hatoms_6
         have D6 : Below w5.heap.size w5 w6 := bt (by (repeat (first | exact Below.refl _ _ | refine ba ?_ | refine bdr ?_ | refine bs ?_ (by simp)))) hb6
         have B6 : Below w.heap.size w w6 := bt B5 D6
         have b6c0_6 : w6.cell? ⟨w.heap.size, 0, none⟩ = some ((.slice p2head x2.head.length q2head)) := cell_below b6c0_5 D6
         have b6c1_6 : w6.cell? ⟨w.heap.size, 1, none⟩ = some ((.slice p2atoms x2.atoms.length q2atoms)) := cell_below b6c1_5 D6
         have d1h_6 := d1h_5.below' D6
         have d2h_6 := d2h_5.below' D6)
      | (go_at_call 68
         with_reducible refine (toStepS_any _ l3 _ (stepsV.below' g3 ?_) nl3).mono ?_
         · (repeat (first | exact B6 | refine ba ?_ | refine bdr ?_ | refine bs ?_ (by simp)))
         rintro e w7 ⟨d4v, d4f, rfl, d4h_7, d4fr, hb7⟩
         obtain ⟨d4a, d4c, rfl⟩ := slR.form d4h_7
         have D7 : Below w6.heap.size w6 w7 := bt (by (repeat (first | exact Below.refl _ _ | refine ba ?_ | refine bdr ?_ | refine bs ?_ (by simp)))) hb7
         have B7 : Below w.heap.size w w7 := bt B6 D7
         have b6c0_7 : w7.cell? ⟨w.heap.size, 0, none⟩ = some ((.slice p2head x2.head.length q2head)) := cell_below b6c0_6 D7
         have b6c1_7 : w7.cell? ⟨w.heap.size, 1, none⟩ = some ((.slice p2atoms x2.atoms.length q2atoms)) := cell_below b6c1_6 D7
         have d1h_7 := d1h_6.below' D7
         have d2h_7 := d2h_6.below' D7
         have d3hhead_7 := d3hhead_6.below' D7
         have d3hatoms_7 := d3hatoms_6.below' D7)
      | (go_at_call 67
         with_reducible refine (specIsOrder_any _ l0 _ _ l1 _ x2 _ _ _ _ _ l3 _ _ (ints.below' d1h_7 ?_) (meths.below' d2h_7 ?_) (ints.below' d3hhead_7 ?_) (atoms.below' d3hatoms_7 ?_) (steps.below' d4h_7 ?_) nT).mono ?_
         · (repeat (first | exact Below.refl _ _ | refine ba ?_ | refine bdr ?_ | refine bs ?_ (by simp)))
         · (repeat (first | exact Below.refl _ _ | refine ba ?_ | refine bdr ?_ | refine bs ?_ (by simp)))
         · (repeat (first | exact Below.refl _ _ | refine ba ?_ | refine bdr ?_ | refine bs ?_ (by simp)))
         · (repeat (first | exact Below.refl _ _ | refine ba ?_ | refine bdr ?_ | refine bs ?_ (by simp)))
         · (repeat (first | exact Below.refl _ _ | refine ba ?_ | refine bdr ?_ | refine bs ?_ (by simp)))
         rintro e w8 ⟨rfl, hb8⟩
         have D8 : Below w7.heap.size w7 w8 := bt (by (repeat (first | exact Below.refl _ _ | refine ba ?_ | refine bdr ?_ | refine bs ?_ (by simp)))) hb8
         have B8 : Below w.heap.size w w8 := bt B7 D8
         have b6c0_8 : w8.cell? ⟨w.heap.size, 0, none⟩ = some ((.slice p2head x2.head.length q2head)) := cell_below b6c0_7 D8
         have b6c1_8 : w8.cell? ⟨w.heap.size, 1, none⟩ = some ((.slice p2atoms x2.atoms.length q2atoms)) := cell_below b6c1_7 D8))
  clear b6c0_3 b6c1_3 b6c0_4 b6c1_4 d1h_4 b6c0_5 b6c1_5 d1h_5 d2h_5 b6c0_6 b6c1_6 d1h_6 d2h_6 d3hhead_6 d3hatoms_6 b6c0_7 b6c1_7 d1h_7 d2h_7 d3hhead_7 d3hatoms_7 d4h_7
  go_wp2_with fail
  refine (toIntS_any _ l0 _ (intsV.below' g0 ?_) n0).mono ?_
  · (repeat (first | exact B8 | refine ba ?_ | refine bdr ?_ | refine bs ?_ (by simp)))
  rintro e w9 ⟨d5v, d5f, rfl, d5h_9, d5fr, hb9⟩
  obtain ⟨d5a, d5c, rfl⟩ := slR.form d5h_9
  have D9 : Below w8.heap.size w8 w9 := bt (by (repeat (first | exact Below.refl _ _ | refine ba ?_ | refine bdr ?_ | refine bs ?_ (by simp)))) hb9
  have B9 : Below w.heap.size w w9 := bt B8 D9
  have b6c0_9 : w9.cell? ⟨w.heap.size, 0, none⟩ = some ((.slice p2head x2.head.length q2head)) := cell_below b6c0_8 D9
  have b6c1_9 : w9.cell? ⟨w.heap.size, 1, none⟩ = some ((.slice p2atoms x2.atoms.length q2atoms)) := cell_below b6c1_8 D9
  clear b6c0_8 b6c1_8
  go_wp2_with fail
  refine (toMethodS_any _ l1 _ (methsV.below' g1 ?_) nl1 nl1i).mono ?_
  · (repeat (first | exact B9 | refine ba ?_ | refine bdr ?_ | refine bs ?_ (by simp)))
  rintro e w10 ⟨d6v, d6f, rfl, d6h_10, d6fr, hb10⟩
  obtain ⟨d6a, d6c, rfl⟩ := slR.form d6h_10
  have D10 : Below w9.heap.size w9 w10 := bt (by (repeat (first | exact Below.refl _ _ | refine ba ?_ | refine bdr ?_ | refine bs ?_ (by simp)))) hb10
  have B10 : Below w.heap.size w w10 := bt B9 D10
  have b6c0_10 : w10.cell? ⟨w.heap.size, 0, none⟩ = some ((.slice p2head x2.head.length q2head)) := cell_below b6c0_9 D10
  have b6c1_10 : w10.cell? ⟨w.heap.size, 1, none⟩ = some ((.slice p2atoms x2.atoms.length q2atoms)) := cell_below b6c1_9 D10
  have d5h_10 := d5h_9.below' D10
  clear b6c0_9 b6c1_9 d5h_9
  go_wp2_with fail
  refine (toQuery_any x2 _ _ _ (intsV.below' h2head ?_) nx2head (atomsV.below' h2atoms ?_) nx2atoms nx2atomsi).mono ?_
  · (repeat (first | exact B10 | refine ba ?_ | refine bdr ?_ | refine bs ?_ (by simp)))
  · (repeat (first | exact B10 | refine ba ?_ | refine bdr ?_ | refine bs ?_ (by simp)))
  rintro e w11 ⟨d7vhead, d7vatoms, d7fhead, d7fatoms, rfl, d7hhead_11, d7hatoms_11, d7fr, hb11⟩
  obtain ⟨d7ahead, d7chead, rfl⟩ := slR.form d7hhead_11
  obtain ⟨d7aatoms, d7catoms, rfl⟩ := slR.form d7hatoms_11
  have D11 : Below w10.heap.size w10 w11 := bt (by (repeat (first | exact Below.refl _ _ | refine ba ?_ | refine bdr ?_ | refine bs ?_ (by simp)))) hb11
  have B11 : Below w.heap.size w w11 := bt B10 D11
  have b6c0_11 : w11.cell? ⟨w.heap.size, 0, none⟩ = some ((.slice p2head x2.head.length q2head)) := cell_below b6c0_10 D11
  have b6c1_11 : w11.cell? ⟨w.heap.size, 1, none⟩ = some ((.slice p2atoms x2.atoms.length q2atoms)) := cell_below b6c1_10 D11
  have d5h_11 := d5h_10.below' D11
  have d6h_11 := d6h_10.below' D11
  clear b6c0_10 b6c1_10 d5h_10 d6h_10
  have b6c0_11n := fun o => cell_al b6c0_11 o
  have b6c1_11n := fun o => cell_al b6c1_11 o
  go_wp2_with fail
  refine (toStepS_any _ l3 _ (stepsV.below' g3 ?_) nl3).mono ?_
  · (repeat (first | exact B11 | refine ba ?_ | refine bdr ?_ | refine bs ?_ (by simp)))
  rintro e w12 ⟨d8v, d8f, rfl, d8h_12, d8fr, hb12⟩
  obtain ⟨d8a, d8c, rfl⟩ := slR.form d8h_12
  have D12 : Below w11.heap.size w11 w12 := bt (by (repeat (first | exact Below.refl _ _ | refine ba ?_ | refine bdr ?_ | refine bs ?_ (by simp)))) hb12
  have B12 : Below w.heap.size w w12 := bt B11 D12
  have b6c0_12 : w12.cell? ⟨w.heap.size, 0, none⟩ = some ((.slice p2head x2.head.length q2head)) := cell_below b6c0_11 D12
  have b6c1_12 : w12.cell? ⟨w.heap.size, 1, none⟩ = some ((.slice p2atoms x2.atoms.length q2atoms)) := cell_below b6c1_11 D12
  have b13c0_12 : w12.cell? ⟨w11.heap.size, 0, none⟩ = some ((.slice d7ahead x2.head.length d7chead)) := cell_below (cell_new _ _ _ 0 _ rfl) hb12
  have b13c1_12 : w12.cell? ⟨w11.heap.size, 1, none⟩ = some ((.slice d7aatoms x2.atoms.length d7catoms)) := cell_below (cell_new _ _ _ 1 _ rfl) hb12
  have d5h_12 := d5h_11.below' D12
  have d6h_12 := d6h_11.below' D12
  have d7hhead_12 := d7hhead_11.below' D12
  have d7hatoms_12 := d7hatoms_11.below' D12
  clear b6c0_11 b6c1_11 d5h_11 d6h_11 d7hhead_11 d7hatoms_11 b6c0_11n b6c1_11n
  go_wp2_with fail
  refine (implIsOrder_any _ l0 _ _ l1 _ x2 _ _ _ _ _ l3 _ _ (ints.below' d5h_12 ?_) (meths.below' d6h_12 ?_) (ints.below' d7hhead_12 ?_) (atoms.below' d7hatoms_12 ?_) (steps.below' d8h_12 ?_) nT).mono ?_
  · (repeat (first | exact Below.refl _ _ | refine ba ?_ | refine bdr ?_ | refine bs ?_ (by simp)))
  · (repeat (first | exact Below.refl _ _ | refine ba ?_ | refine bdr ?_ | refine bs ?_ (by simp)))
  · (repeat (first | exact Below.refl _ _ | refine ba ?_ | refine bdr ?_ | refine bs ?_ (by simp)))
  · (repeat (first | exact Below.refl _ _ | refine ba ?_ | refine bdr ?_ | refine bs ?_ (by simp)))
  · (repeat (first | exact Below.refl _ _ | refine ba ?_ | refine bdr ?_ | refine bs ?_ (by simp)))
  rintro e w13 ⟨rfl, hb13⟩
  have D13 : Below w12.heap.size w12 w13 := bt (by (repeat (first | exact Below.refl _ _ | refine ba ?_ | refine bdr ?_ | refine bs ?_ (by simp)))) hb13
  have B13 : Below w.heap.size w w13 := bt B12 D13
  have b6c0_13 : w13.cell? ⟨w.heap.size, 0, none⟩ = some ((.slice p2head x2.head.length q2head)) := cell_below b6c0_12 D13
  have b6c1_13 : w13.cell? ⟨w.heap.size, 1, none⟩ = some ((.slice p2atoms x2.atoms.length q2atoms)) := cell_below b6c1_12 D13
  have b13c0_13 : w13.cell? ⟨w11.heap.size, 0, none⟩ = some ((.slice d7ahead x2.head.length d7chead)) := cell_below b13c0_12 D13
  have b13c1_13 : w13.cell? ⟨w11.heap.size, 1, none⟩ = some ((.slice d7aatoms x2.atoms.length d7catoms)) := cell_below b13c1_12 D13
  have d5h_13 := d5h_12.below' D13
  have d6h_13 := d6h_12.below' D13
  have d7hhead_13 := d7hhead_12.below' D13
  have d7hatoms_13 := d7hatoms_12.below' D13
  have d8h_13 := d8h_12.below' D13
  clear b6c0_12 b6c1_12 b13c0_12 b13c1_12 d5h_12 d6h_12 d7hhead_12 d7hatoms_12 d8h_12
  go_wp2_with fail
  refine (toIntS_any _ l0 _ (intsV.below' g0 ?_) n0).mono ?_
  · (repeat (first | exact B13 | refine ba ?_ | refine bdr ?_ | refine bs ?_ (by simp)))
  rintro e w14 ⟨d9v, d9f, rfl, d9h_14, d9fr, hb14⟩
  obtain ⟨d9a, d9c, rfl⟩ := slR.form d9h_14
  have D14 : Below w13.heap.size w13 w14 := bt (by (repeat (first | exact Below.refl _ _ | refine ba ?_ | refine bdr ?_ | refine bs ?_ (by simp)))) hb14
  have B14 : Below w.heap.size w w14 := bt B13 D14
  have b6c0_14 : w14.cell? ⟨w.heap.size, 0, none⟩ = some ((.slice p2head x2.head.length q2head)) := cell_below b6c0_13 D14
  have b6c1_14 : w14.cell? ⟨w.heap.size, 1, none⟩ = some ((.slice p2atoms x2.atoms.length q2atoms)) := cell_below b6c1_13 D14
  have b13c0_14 : w14.cell? ⟨w11.heap.size, 0, none⟩ = some ((.slice d7ahead x2.head.length d7chead)) := cell_below b13c0_13 D14
  have b13c1_14 : w14.cell? ⟨w11.heap.size, 1, none⟩ = some ((.slice d7aatoms x2.atoms.length d7catoms)) := cell_below b13c1_13 D14
  have d5h_14 := d5h_13.below' D14
  have d6h_14 := d6h_13.below' D14
  have d7hhead_14 := d7hhead_13.below' D14
  have d7hatoms_14 := d7hatoms_13.below' D14
  have d8h_14 := d8h_13.below' D14
  clear b6c0_13 b6c1_13 b13c0_13 b13c1_13 d5h_13 d6h_13 d7hhead_13 d7hatoms_13 d8h_13
  go_wp2_with fail
  refine (eqIntS_any _ _ l0 l0 _ _ _ (ints.below' d5h_14 ?_) (ints.below' d9h_14 ?_)).mono ?_
  · (repeat (first | exact Below.refl _ _ | refine ba ?_ | refine bdr ?_ | refine bs ?_ (by simp)))
  · (repeat (first | exact Below.refl _ _ | refine ba ?_ | refine bdr ?_ | refine bs ?_ (by simp)))
  rintro e w15 ⟨rfl, hb15⟩
  have D15 : Below w14.heap.size w14 w15 := bt (by (repeat (first | exact Below.refl _ _ | refine ba ?_ | refine bdr ?_ | refine bs ?_ (by simp)))) hb15
  have B15 : Below w.heap.size w w15 := bt B14 D15
  have b6c0_15 : w15.cell? ⟨w.heap.size, 0, none⟩ = some ((.slice p2head x2.head.length q2head)) := cell_below b6c0_14 D15
  have b6c1_15 : w15.cell? ⟨w.heap.size, 1, none⟩ = some ((.slice p2atoms x2.atoms.length q2atoms)) := cell_below b6c1_14 D15
  have b13c0_15 : w15.cell? ⟨w11.heap.size, 0, none⟩ = some ((.slice d7ahead x2.head.length d7chead)) := cell_below b13c0_14 D15
  have b13c1_15 : w15.cell? ⟨w11.heap.size, 1, none⟩ = some ((.slice d7aatoms x2.atoms.length d7catoms)) := cell_below b13c1_14 D15
  have d6h_15 := d6h_14.below' D15
  have d7hhead_15 := d7hhead_14.below' D15
  have d7hatoms_15 := d7hatoms_14.below' D15
  have d8h_15 := d8h_14.below' D15
  clear b6c0_14 b6c1_14 b13c0_14 b13c1_14 d5h_14 d6h_14 d7hhead_14 d7hatoms_14 d8h_14 d9h_14
  go_wp2_with fail
  refine (toMethodS_any _ l1 _ (methsV.below' g1 ?_) nl1 nl1i).mono ?_
  · (repeat (first | exact B15 | refine ba ?_ | refine bdr ?_ | refine bs ?_ (by simp)))
  rintro e w16 ⟨d10v, d10f, rfl, d10h_16, d10fr, hb16⟩
  obtain ⟨d10a, d10c, rfl⟩ := slR.form d10h_16
  have D16 : Below w15.heap.size w15 w16 := bt (by (repeat (first | exact Below.refl _ _ | refine ba ?_ | refine bdr ?_ | refine bs ?_ (by simp)))) hb16
  have B16 : Below w.heap.size w w16 := bt B15 D16
  have b6c0_16 : w16.cell? ⟨w.heap.size, 0, none⟩ = some ((.slice p2head x2.head.length q2head)) := cell_below b6c0_15 D16
  have b6c1_16 : w16.cell? ⟨w.heap.size, 1, none⟩ = some ((.slice p2atoms x2.atoms.length q2atoms)) := cell_below b6c1_15 D16
  have b13c0_16 : w16.cell? ⟨w11.heap.size, 0, none⟩ = some ((.slice d7ahead x2.head.length d7chead)) := cell_below b13c0_15 D16
  have b13c1_16 : w16.cell? ⟨w11.heap.size, 1, none⟩ = some ((.slice d7aatoms x2.atoms.length d7catoms)) := cell_below b13c1_15 D16
  have d6h_16 := d6h_15.below' D16
  have d7hhead_16 := d7hhead_15.below' D16
  have d7hatoms_16 := d7hatoms_15.below' D16
  have d8h_16 := d8h_15.below' D16
  clear b6c0_15 b6c1_15 b13c0_15 b13c1_15 d6h_15 d7hhead_15 d7hatoms_15 d8h_15
  go_wp2_with fail
  refine (eqMethodS_any _ _ l1 l1 _ _ _ (meths.below' d6h_16 ?_) (meths.below' d10h_16 ?_)).mono ?_
  · (repeat (first | exact Below.refl _ _ | refine ba ?_ | refine bdr ?_ | refine bs ?_ (by simp)))
  · (repeat (first | exact Below.refl _ _ | refine ba ?_ | refine bdr ?_ | refine bs ?_ (by simp)))
  rintro e w17 ⟨rfl, hb17⟩
  have D17 : Below w16.heap.size w16 w17 := bt (by (repeat (first | exact Below.refl _ _ | refine ba ?_ | refine bdr ?_ | refine bs ?_ (by simp)))) hb17
  have B17 : Below w.heap.size w w17 := bt B16 D17
  have b6c0_17 : w17.cell? ⟨w.heap.size, 0, none⟩ = some ((.slice p2head x2.head.length q2head)) := cell_below b6c0_16 D17
  have b6c1_17 : w17.cell? ⟨w.heap.size, 1, none⟩ = some ((.slice p2atoms x2.atoms.length q2atoms)) := cell_below b6c1_16 D17
  have b13c0_17 : w17.cell? ⟨w11.heap.size, 0, none⟩ = some ((.slice d7ahead x2.head.length d7chead)) := cell_below b13c0_16 D17
  have b13c1_17 : w17.cell? ⟨w11.heap.size, 1, none⟩ = some ((.slice d7aatoms x2.atoms.length d7catoms)) := cell_below b13c1_16 D17
  have d7hhead_17 := d7hhead_16.below' D17
  have d7hatoms_17 := d7hatoms_16.below' D17
  have d8h_17 := d8h_16.below' D17
  clear b6c0_16 b6c1_16 b13c0_16 b13c1_16 d6h_16 d7hhead_16 d7hatoms_16 d8h_16 d10h_16
  go_wp2_with fail
  go_region_held3 (fun w' => w'.cell? ⟨w11.heap.size, 0, none⟩ = some ((.slice d7ahead x2.head.length d7chead)) ∧ w'.cell? ⟨w11.heap.size, 1, none⟩ = some ((.slice d7aatoms x2.atoms.length d7catoms)) ∧ w'.cell? ⟨w.heap.size, 0, none⟩ = some ((.slice p2head x2.head.length q2head)) ∧ w'.cell? ⟨w.heap.size, 1, none⟩ = some ((.slice p2atoms x2.atoms.length q2atoms))) (first | exact ⟨b13c0_17, b13c1_17, b6c0_17, b6c1_17⟩ | exact ⟨b13c0_18, b13c1_18, b6c0_18, b6c1_18⟩ | exact ⟨b13c0_19, b13c1_19, b6c0_19, b6c1_19⟩)
    (first
      | (go_at_call 39
         with_reducible refine (toQuery_any x2 _ _ _ (intsV.below' h2head ?_) nx2head (atomsV.below' h2atoms ?_) nx2atoms nx2atomsi).mono ?_
         · (repeat (first | exact B17 | refine ba ?_ | refine bdr ?_ | refine bs ?_ (by simp)))
         · (repeat (first | exact B17 | refine ba ?_ | refine bdr ?_ | refine bs ?_ (by simp)))
         rintro e w18 ⟨d11vhead, d11vatoms, d11fhead, d11fatoms, rfl, d11hhead_18, d11hatoms_18, d11fr, hb18⟩
         obtain ⟨d11ahead, d11chead, rfl⟩ := slR.form d11hhead_18
         obtain ⟨d11aatoms, d11catoms, rfl⟩ := slR.form d11hatoms_18
         have D18 : Below w17.heap.size w17 w18 := bt (by (repeat (first | exact Below.refl _ _ | refine ba ?_ | refine bdr ?_ | refine bs ?_ (by simp)))) hb18
         have B18 : Below w.heap.size w w18 := bt B17 D18
         have b6c0_18 : w18.cell? ⟨w.heap.size, 0, none⟩ = some ((.slice p2head x2.head.length q2head)) := cell_below b6c0_17 D18
         have b6c1_18 : w18.cell? ⟨w.heap.size, 1, none⟩ = some ((.slice p2atoms x2.atoms.length q2atoms)) := cell_below b6c1_17 D18
         have b13c0_18 : w18.cell? ⟨w11.heap.size, 0, none⟩ = some ((.slice d7ahead x2.head.length d7chead)) := cell_below b13c0_17 D18
         have b13c1_18 : w18.cell? ⟨w11.heap.size, 1, none⟩ = some ((.slice d7aatoms x2.atoms.length d7catoms)) := cell_below b13c1_17 D18
         have d7hhead_18 := d7hhead_17.below' D18
         have d7hatoms_18 := d7hatoms_17.below' D18
         have d8h_18 := d8h_17.below' D18)
      | (go_at_call 43
         with_reducible refine (eqQuery_any x2 x2 _ _ _ _ _ _ _ _ _ (ints.below' d7hhead_18 ?_) (ints.below' d11hhead_18 ?_) (atoms.below' d7hatoms_18 ?_) (atoms.below' d11hatoms_18 ?_)).mono ?_
         · (repeat (first | exact Below.refl _ _ | refine ba ?_ | refine bdr ?_ | refine bs ?_ (by simp)))
         · (repeat (first | exact Below.refl _ _ | refine ba ?_ | refine bdr ?_ | refine bs ?_ (by simp)))
         · (repeat (first | exact Below.refl _ _ | refine ba ?_ | refine bdr ?_ | refine bs ?_ (by simp)))
         · (repeat (first | exact Below.refl _ _ | refine ba ?_ | refine bdr ?_ | refine bs ?_ (by simp)))
         rintro e w19 ⟨rfl, hb19⟩
         have D19 : Below w18.heap.size w18 w19 := bt (by (repeat (first | exact Below.refl _ _ | refine ba ?_ | refine bdr ?_ | refine bs ?_ (by simp)))) hb19
         have B19 : Below w.heap.size w w19 := bt B18 D19
         have b6c0_19 : w19.cell? ⟨w.heap.size, 0, none⟩ = some ((.slice p2head x2.head.length q2head)) := cell_below b6c0_18 D19
         have b6c1_19 : w19.cell? ⟨w.heap.size, 1, none⟩ = some ((.slice p2atoms x2.atoms.length q2atoms)) := cell_below b6c1_18 D19
         have b13c0_19 : w19.cell? ⟨w11.heap.size, 0, none⟩ = some ((.slice d7ahead x2.head.length d7chead)) := cell_below b13c0_18 D19
         have b13c1_19 : w19.cell? ⟨w11.heap.size, 1, none⟩ = some ((.slice d7aatoms x2.atoms.length d7catoms)) := cell_below b13c1_18 D19
         have d8h_19 := d8h_18.below' D19))
  clear b6c0_17 b6c1_17 b13c0_17 b13c1_17 d7hhead_17 d7hatoms_17 d8h_17 b6c0_18 b6c1_18 b13c0_18 b13c1_18 d7hhead_18 d7hatoms_18 d8h_18 d11hhead_18 d11hatoms_18
  go_wp2_with fail
  refine (toStepS_any _ l3 _ (stepsV.below' g3 ?_) nl3).mono ?_
  · (repeat (first | exact B19 | refine ba ?_ | refine bdr ?_ | refine bs ?_ (by simp)))
  rintro e w20 ⟨d12v, d12f, rfl, d12h_20, d12fr, hb20⟩
  obtain ⟨d12a, d12c, rfl⟩ := slR.form d12h_20
  have D20 : Below w19.heap.size w19 w20 := bt (by (repeat (first | exact Below.refl _ _ | refine ba ?_ | refine bdr ?_ | refine bs ?_ (by simp)))) hb20
  have B20 : Below w.heap.size w w20 := bt B19 D20
  have d8h_20 := d8h_19.below' D20
  clear b6c0_19 b6c1_19 b13c0_19 b13c1_19 d8h_19
  go_wp2_with fail
  refine (eqStepS_any _ _ l3 l3 _ _ _ (steps.below' d8h_20 ?_) (steps.below' d12h_20 ?_)).mono ?_
  · (repeat (first | exact Below.refl _ _ | refine ba ?_ | refine bdr ?_ | refine bs ?_ (by simp)))
  · (repeat (first | exact Below.refl _ _ | refine ba ?_ | refine bdr ?_ | refine bs ?_ (by simp)))
  rintro e w21 ⟨rfl, hb21⟩
  have D21 : Below w20.heap.size w20 w21 := bt (by (repeat (first | exact Below.refl _ _ | refine ba ?_ | refine bdr ?_ | refine bs ?_ (by simp)))) hb21
  have B21 : Below w.heap.size w w21 := bt B20 D21
  clear d8h_20 d12h_20
  go_wp2
  go_ret
  exact ⟨rfl, B21⟩
end Go.Proofs.Ytjjkfhjkfoikbaa
