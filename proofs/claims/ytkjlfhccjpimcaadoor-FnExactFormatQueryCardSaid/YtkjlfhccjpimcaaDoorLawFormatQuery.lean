/- The walk of the law FnExactFormatQuery: it returns true, whatever the input. -/
import Derived.Test.YtkjlfhccjpimcaaDoorFmtQ
import Derived.Test.YtkjlfhccjpimcaaDoorHQuery
import Derived.Test.YtkjlfhccjpimcaaDoorVarsB
import Derived.Test.YtkjlfhccjpimcaaDoorFacts0
namespace Go.Proofs.YtkjlfhccjpimcaaDoor
open Go.RowKit
set_option linter.unusedVariables false
set_option linter.unusedSimpArgs false
set_option maxRecDepth 100000 in
set_option maxHeartbeats 8000000 in
theorem fnExactFormatQuery_walk (cs0 : List Value) (x0 : QueryD) (w : World) (g0 : queryW w cs0 x0) (hT : Lib.TabBelow Tryd.prog w.heap.size w "internal/strconv.uint64pow10" .u64 Lib.pow10Tab) :
    Calls Tryd.prog 5 #[.agg cs0.toArray] w fun e w' => e = .returned (.bool true) ∧ Below w.heap.size w w' := by
  obtain ⟨v0head, v0atoms, rfl, h0head, h0atoms⟩ := g0
  obtain ⟨p0head, q0head, rfl⟩ := slW.form h0head
  obtain ⟨p0atoms, q0atoms, rfl⟩ := slW.form h0atoms
  have b1c0_0 : (w.alloc (.cells #[(.slice p0head x0.head.length q0head), (.slice p0atoms x0.atoms.length q0atoms)] 41)).cell? ⟨w.heap.size, 0, none⟩ = some ((.slice p0head x0.head.length q0head)) := cell_new w _ _ 0 _ rfl
  have b1c1_0 : (w.alloc (.cells #[(.slice p0head x0.head.length q0head), (.slice p0atoms x0.atoms.length q0atoms)] 41)).cell? ⟨w.heap.size, 1, none⟩ = some ((.slice p0atoms x0.atoms.length q0atoms)) := cell_new w _ _ 1 _ rfl
  have rd0 : decide (x0 = x0) = true := by simp
  go_enter Tryd.func5, Tryd.ntmps5
  go_wp2_with fail
  refine (szQuery_any x0 _ _ (1048576) _ (intsV.below' h0head ?_) (atomsV.below' h0atoms ?_) ⟨by omega, by omega⟩).mono ?_
  · (repeat (first | exact Below.refl _ _ | refine ba ?_ | refine bdr ?_ | refine bs ?_ (by simp)))
  · (repeat (first | exact Below.refl _ _ | refine ba ?_ | refine bdr ?_ | refine bs ?_ (by simp)))
  rintro e w1 ⟨rfl, hb1⟩
  have D1 : Below w.heap.size w w1 := bt (by (repeat (first | exact Below.refl _ _ | refine ba ?_ | refine bdr ?_ | refine bs ?_ (by simp)))) hb1
  have B1 : Below w.heap.size w w1 := D1
  have b1c0_1 : w1.cell? ⟨w.heap.size, 0, none⟩ = some ((.slice p0head x0.head.length q0head)) := cell_below (b1c0_0) hb1
  have b1c1_1 : w1.cell? ⟨w.heap.size, 1, none⟩ = some ((.slice p0atoms x0.atoms.length q0atoms)) := cell_below (b1c1_0) hb1
  clear b1c0_0 b1c1_0
  rcases left_cases (bulkQuery x0) (1048576) (by omega) with ⟨t0, t1⟩ | ⟨t0, t1⟩
  case inl =>
    have T1 := Lib.hid t1; clear t1
    go_wp2
    go_ret
    exact ⟨rfl, B1⟩
  have T1 := Lib.hid t1; clear t1
  obtain ⟨qx0, ex01, ex02⟩ := left_bd t0 (by omega) (by omega)
  clear t0
  have nx0head : x0.head.length ≤ 1048576 := by have h9 := qx0; unfold bulkQuery at h9; omega
  have nx0atoms : x0.atoms.length ≤ 1048576 := by have h9 := qx0; unfold bulkQuery bulkAtomS at h9; omega
  have nx0atomsi : ∀ y ∈ x0.atoms, y.terms.length ≤ 1048576 := fun y hy => by have h9 := qx0; unfold bulkQuery bulkAtomS at h9; have h8 := sum_ge_mem (f := fun x => bulkAtom x) hy; unfold bulkAtom at h8 h9; omega
  have nT : (termsL x0.atoms).length ≤ 1048576 := termsL_bulk qx0
  go_wp2_with fail
  refine (toQuery_any x0 _ _ _ (intsV.below' h0head ?_) nx0head (atomsV.below' h0atoms ?_) nx0atoms nx0atomsi).mono ?_
  · (repeat (first | exact B1 | refine ba ?_ | refine bdr ?_ | refine bs ?_ (by simp)))
  · (repeat (first | exact B1 | refine ba ?_ | refine bdr ?_ | refine bs ?_ (by simp)))
  rintro e w2 ⟨d1vhead, d1vatoms, d1fhead, d1fatoms, rfl, d1hhead_2, d1hatoms_2, d1fr, hb2⟩
  obtain ⟨d1ahead, d1chead, rfl⟩ := slR.form d1hhead_2
  obtain ⟨d1aatoms, d1catoms, rfl⟩ := slR.form d1hatoms_2
  have D2 : Below w1.heap.size w1 w2 := bt (by (repeat (first | exact Below.refl _ _ | refine ba ?_ | refine bdr ?_ | refine bs ?_ (by simp)))) hb2
  have B2 : Below w.heap.size w w2 := bt B1 D2
  have b1c0_2 : w2.cell? ⟨w.heap.size, 0, none⟩ = some ((.slice p0head x0.head.length q0head)) := cell_below b1c0_1 D2
  have b1c1_2 : w2.cell? ⟨w.heap.size, 1, none⟩ = some ((.slice p0atoms x0.atoms.length q0atoms)) := cell_below b1c1_1 D2
  clear b1c0_1 b1c1_1
  go_wp2_with fail
  refine (specFormatQuery_any x0 _ _ _ _ _ (ints.below' d1hhead_2 ?_) (atoms.below' d1hatoms_2 ?_) nT nx0head nx0atoms).mono ?_
  · (repeat (first | exact Below.refl _ _ | refine ba ?_ | refine bdr ?_ | refine bs ?_ (by simp)))
  · (repeat (first | exact Below.refl _ _ | refine ba ?_ | refine bdr ?_ | refine bs ?_ (by simp)))
  rintro e w3 ⟨rfl, hb3⟩
  have D3 : Below w2.heap.size w2 w3 := bt (by (repeat (first | exact Below.refl _ _ | refine ba ?_ | refine bdr ?_ | refine bs ?_ (by simp)))) hb3
  have B3 : Below w.heap.size w w3 := bt B2 D3
  have b1c0_3 : w3.cell? ⟨w.heap.size, 0, none⟩ = some ((.slice p0head x0.head.length q0head)) := cell_below b1c0_2 D3
  have b1c1_3 : w3.cell? ⟨w.heap.size, 1, none⟩ = some ((.slice p0atoms x0.atoms.length q0atoms)) := cell_below b1c1_2 D3
  clear b1c0_2 b1c1_2 d1hhead_2 d1hatoms_2
  go_wp2_with fail
  refine (toQuery_any x0 _ _ _ (intsV.below' h0head ?_) nx0head (atomsV.below' h0atoms ?_) nx0atoms nx0atomsi).mono ?_
  · (repeat (first | exact B3 | refine ba ?_ | refine bdr ?_ | refine bs ?_ (by simp)))
  · (repeat (first | exact B3 | refine ba ?_ | refine bdr ?_ | refine bs ?_ (by simp)))
  rintro e w4 ⟨d2vhead, d2vatoms, d2fhead, d2fatoms, rfl, d2hhead_4, d2hatoms_4, d2fr, hb4⟩
  obtain ⟨d2ahead, d2chead, rfl⟩ := slR.form d2hhead_4
  obtain ⟨d2aatoms, d2catoms, rfl⟩ := slR.form d2hatoms_4
  have D4 : Below w3.heap.size w3 w4 := bt (by (repeat (first | exact Below.refl _ _ | refine ba ?_ | refine bdr ?_ | refine bs ?_ (by simp)))) hb4
  have B4 : Below w.heap.size w w4 := bt B3 D4
  have b1c0_4 : w4.cell? ⟨w.heap.size, 0, none⟩ = some ((.slice p0head x0.head.length q0head)) := cell_below b1c0_3 D4
  have b1c1_4 : w4.cell? ⟨w.heap.size, 1, none⟩ = some ((.slice p0atoms x0.atoms.length q0atoms)) := cell_below b1c1_3 D4
  clear b1c0_3 b1c1_3
  have b1c0_4n := fun o => cell_al b1c0_4 o
  have b1c1_4n := fun o => cell_al b1c1_4 o
  go_wp2_with fail
  refine (implFormatQuery_any x0 _ _ _ _ _ (ints.below' d2hhead_4 ?_) (atoms.below' d2hatoms_4 ?_) nT nx0head nx0atoms (Tab.on hT (by (repeat (first | exact B4 | refine ba ?_ | refine bdr ?_ | refine bs ?_ (by simp)))))).mono ?_
  · (repeat (first | exact Below.refl _ _ | refine ba ?_ | refine bdr ?_ | refine bs ?_ (by simp)))
  · (repeat (first | exact Below.refl _ _ | refine ba ?_ | refine bdr ?_ | refine bs ?_ (by simp)))
  rintro e w5 ⟨rfl, hb5⟩
  have D5 : Below w4.heap.size w4 w5 := bt (by (repeat (first | exact Below.refl _ _ | refine ba ?_ | refine bdr ?_ | refine bs ?_ (by simp)))) hb5
  have B5 : Below w.heap.size w w5 := bt B4 D5
  have b1c0_5 : w5.cell? ⟨w.heap.size, 0, none⟩ = some ((.slice p0head x0.head.length q0head)) := cell_below b1c0_4 D5
  have b1c1_5 : w5.cell? ⟨w.heap.size, 1, none⟩ = some ((.slice p0atoms x0.atoms.length q0atoms)) := cell_below b1c1_4 D5
  have b5c0_5 : w5.cell? ⟨w4.heap.size, 0, none⟩ = some ((.slice d2ahead x0.head.length d2chead)) := cell_below (cell_new _ _ _ 0 _ rfl) hb5
  have b5c1_5 : w5.cell? ⟨w4.heap.size, 1, none⟩ = some ((.slice d2aatoms x0.atoms.length d2catoms)) := cell_below (cell_new _ _ _ 1 _ rfl) hb5
  have d2hhead_5 := d2hhead_4.below' D5
  have d2hatoms_5 := d2hatoms_4.below' D5
  clear b1c0_4 b1c1_4 d2hhead_4 d2hatoms_4 b1c0_4n b1c1_4n
  go_wp2_with fail
  go_region_held3 (fun w' => w'.cell? ⟨w4.heap.size, 0, none⟩ = some ((.slice d2ahead x0.head.length d2chead)) ∧ w'.cell? ⟨w4.heap.size, 1, none⟩ = some ((.slice d2aatoms x0.atoms.length d2catoms)) ∧ w'.cell? ⟨w.heap.size, 0, none⟩ = some ((.slice p0head x0.head.length q0head)) ∧ w'.cell? ⟨w.heap.size, 1, none⟩ = some ((.slice p0atoms x0.atoms.length q0atoms))) (first | exact ⟨b5c0_5, b5c1_5, b1c0_5, b1c1_5⟩ | exact ⟨b5c0_6, b5c1_6, b1c0_6, b1c1_6⟩ | exact ⟨b5c0_7, b5c1_7, b1c0_7, b1c1_7⟩)
    (first
      | (go_at_call 24
         with_reducible refine (toQuery_any x0 _ _ _ (intsV.below' h0head ?_) nx0head (atomsV.below' h0atoms ?_) nx0atoms nx0atomsi).mono ?_
         · (repeat (first | exact B5 | refine ba ?_ | refine bdr ?_ | refine bs ?_ (by simp)))
         · (repeat (first | exact B5 | refine ba ?_ | refine bdr ?_ | refine bs ?_ (by simp)))
         rintro e w6 ⟨d3vhead, d3vatoms, d3fhead, d3fatoms, rfl, d3hhead_6, d3hatoms_6, d3fr, hb6⟩
         obtain ⟨d3ahead, d3chead, rfl⟩ := slR.form d3hhead_6
         obtain ⟨d3aatoms, d3catoms, rfl⟩ := slR.form d3hatoms_6
         have D6 : Below w5.heap.size w5 w6 := bt (by (repeat (first | exact Below.refl _ _ | refine ba ?_ | refine bdr ?_ | refine bs ?_ (by simp)))) hb6
         have B6 : Below w.heap.size w w6 := bt B5 D6
         have b1c0_6 : w6.cell? ⟨w.heap.size, 0, none⟩ = some ((.slice p0head x0.head.length q0head)) := cell_below b1c0_5 D6
         have b1c1_6 : w6.cell? ⟨w.heap.size, 1, none⟩ = some ((.slice p0atoms x0.atoms.length q0atoms)) := cell_below b1c1_5 D6
         have b5c0_6 : w6.cell? ⟨w4.heap.size, 0, none⟩ = some ((.slice d2ahead x0.head.length d2chead)) := cell_below b5c0_5 D6
         have b5c1_6 : w6.cell? ⟨w4.heap.size, 1, none⟩ = some ((.slice d2aatoms x0.atoms.length d2catoms)) := cell_below b5c1_5 D6
         have d2hhead_6 := d2hhead_5.below' D6
         have d2hatoms_6 := d2hatoms_5.below' D6)
      | (go_at_call 26
         with_reducible refine (eqQuery_any x0 x0 _ _ _ _ _ _ _ _ _ (ints.below' d2hhead_6 ?_) (ints.below' d3hhead_6 ?_) (atoms.below' d2hatoms_6 ?_) (atoms.below' d3hatoms_6 ?_)).mono ?_
         · (repeat (first | exact Below.refl _ _ | refine ba ?_ | refine bdr ?_ | refine bs ?_ (by simp)))
         · (repeat (first | exact Below.refl _ _ | refine ba ?_ | refine bdr ?_ | refine bs ?_ (by simp)))
         · (repeat (first | exact Below.refl _ _ | refine ba ?_ | refine bdr ?_ | refine bs ?_ (by simp)))
         · (repeat (first | exact Below.refl _ _ | refine ba ?_ | refine bdr ?_ | refine bs ?_ (by simp)))
         rintro e w7 ⟨rfl, hb7⟩
         have D7 : Below w6.heap.size w6 w7 := bt (by (repeat (first | exact Below.refl _ _ | refine ba ?_ | refine bdr ?_ | refine bs ?_ (by simp)))) hb7
         have B7 : Below w.heap.size w w7 := bt B6 D7
         have b1c0_7 : w7.cell? ⟨w.heap.size, 0, none⟩ = some ((.slice p0head x0.head.length q0head)) := cell_below b1c0_6 D7
         have b1c1_7 : w7.cell? ⟨w.heap.size, 1, none⟩ = some ((.slice p0atoms x0.atoms.length q0atoms)) := cell_below b1c1_6 D7
         have b5c0_7 : w7.cell? ⟨w4.heap.size, 0, none⟩ = some ((.slice d2ahead x0.head.length d2chead)) := cell_below b5c0_6 D7
         have b5c1_7 : w7.cell? ⟨w4.heap.size, 1, none⟩ = some ((.slice d2aatoms x0.atoms.length d2catoms)) := cell_below b5c1_6 D7))
  clear b1c0_5 b1c1_5 b5c0_5 b5c1_5 d2hhead_5 d2hatoms_5 b1c0_6 b1c1_6 b5c0_6 b5c1_6 d2hhead_6 d2hatoms_6 d3hhead_6 d3hatoms_6
  go_wp2
  go_ret
  exact ⟨rfl, B7⟩
end Go.Proofs.YtkjlfhccjpimcaaDoor
