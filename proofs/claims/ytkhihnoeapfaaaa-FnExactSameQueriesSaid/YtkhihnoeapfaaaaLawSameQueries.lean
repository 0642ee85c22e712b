/- The walk of the law FnExactSameQueries: it returns true, whatever the input. -/
import Derived.Test.YtkhihnoeapfaaaaSameQ
import Derived.Test.YtkhihnoeapfaaaaFacts0
namespace Go.Proofs.Ytkhihnoeapfaaaa
open Go.RowKit
set_option linter.unusedVariables false
set_option linter.unusedSimpArgs false
set_option maxRecDepth 100000 in
set_option maxHeartbeats 8000000 in
theorem fnExactSameQueries_walk (cs0 : List Value) (x0 : QueryD) (cs1 : List Value) (x1 : QueryD) (w : World) (g0 : queryW w cs0 x0) (g1 : queryW w cs1 x1)  :
    Calls Try.prog 15 #[.agg cs0.toArray, .agg cs1.toArray] w fun e w' => e = .returned (.bool true) ∧ Below w.heap.size w w' := by
  obtain ⟨v0head, v0atoms, rfl, h0head, h0atoms⟩ := g0
  obtain ⟨p0head, q0head, rfl⟩ := slW.form h0head
  obtain ⟨p0atoms, q0atoms, rfl⟩ := slW.form h0atoms
  obtain ⟨v1head, v1atoms, rfl, h1head, h1atoms⟩ := g1
  obtain ⟨p1head, q1head, rfl⟩ := slW.form h1head
  obtain ⟨p1atoms, q1atoms, rfl⟩ := slW.form h1atoms
  have b2c0_0 : ∀ (o1 : Obj), ((w.alloc (.cells #[(.slice p0head x0.head.length q0head), (.slice p0atoms x0.atoms.length q0atoms)] 89)).alloc o1).cell? ⟨w.heap.size, 0, none⟩ = some ((.slice p0head x0.head.length q0head)) := fun o1 => cell_al (cell_new w _ _ 0 _ rfl) o1
  have b2c1_0 : ∀ (o1 : Obj), ((w.alloc (.cells #[(.slice p0head x0.head.length q0head), (.slice p0atoms x0.atoms.length q0atoms)] 89)).alloc o1).cell? ⟨w.heap.size, 1, none⟩ = some ((.slice p0atoms x0.atoms.length q0atoms)) := fun o1 => cell_al (cell_new w _ _ 1 _ rfl) o1
  have b3c0_0 : ∀ (o0 : Obj), ((w.alloc o0).alloc (.cells #[(.slice p1head x1.head.length q1head), (.slice p1atoms x1.atoms.length q1atoms)] 89)).cell? ⟨w.heap.size + 1, 0, none⟩ = some ((.slice p1head x1.head.length q1head)) := fun o0 => cell_at (w.alloc o0) _ (by simp) _ _ 0 _ rfl
  have b3c1_0 : ∀ (o0 : Obj), ((w.alloc o0).alloc (.cells #[(.slice p1head x1.head.length q1head), (.slice p1atoms x1.atoms.length q1atoms)] 89)).cell? ⟨w.heap.size + 1, 1, none⟩ = some ((.slice p1atoms x1.atoms.length q1atoms)) := fun o0 => cell_at (w.alloc o0) _ (by simp) _ _ 1 _ rfl
  have rr : (decide (x0 = x1) != decide (x0 = x1)) = false := by simp
  have rd0 : decide (x0 = x0) = true := by simp
  have rd1 : decide (x1 = x1) = true := by simp
  go_enter Try.func15, Try.ntmps15
  go_wp2_with fail
  refine (szQuery_any x0 _ _ (1048576) _ (intsV.below' h0head ?_) (atomsV.below' h0atoms ?_) ⟨by omega, by omega⟩).mono ?_
  · (repeat (first | exact Below.refl _ _ | refine ba ?_ | refine bdr ?_ | refine bs ?_ (by simp)))
  · (repeat (first | exact Below.refl _ _ | refine ba ?_ | refine bdr ?_ | refine bs ?_ (by simp)))
  rintro e w1 ⟨rfl, hb1⟩
  have D1 : Below w.heap.size w w1 := bt (by (repeat (first | exact Below.refl _ _ | refine ba ?_ | refine bdr ?_ | refine bs ?_ (by simp)))) hb1
  have B1 : Below w.heap.size w w1 := D1
  have b2c0_1 : w1.cell? ⟨w.heap.size, 0, none⟩ = some ((.slice p0head x0.head.length q0head)) := cell_below (b2c0_0 _) hb1
  have b2c1_1 : w1.cell? ⟨w.heap.size, 1, none⟩ = some ((.slice p0atoms x0.atoms.length q0atoms)) := cell_below (b2c1_0 _) hb1
  have b3c0_1 : w1.cell? ⟨w.heap.size + 1, 0, none⟩ = some ((.slice p1head x1.head.length q1head)) := cell_below (b3c0_0 _) hb1
  have b3c1_1 : w1.cell? ⟨w.heap.size + 1, 1, none⟩ = some ((.slice p1atoms x1.atoms.length q1atoms)) := cell_below (b3c1_0 _) hb1
  clear b2c0_0 b2c1_0 b3c0_0 b3c1_0
  rcases left_cases (bulkQuery x0) (1048576) (by omega) with ⟨t0, t1⟩ | ⟨t0, t1⟩
  case inl =>
    have T1 := Lib.hid t1; clear t1
    go_wp2
    go_ret
    exact ⟨rfl, B1⟩
  have T1 := Lib.hid t1; clear t1
  obtain ⟨qx0, ex01, ex02⟩ := left_bd t0 (by omega) (by omega)
  clear t0
  have nx0head : x0.head.length ≤ 1048576 := by have h9 := qx0; unfold bulkQuery at h9; omega
  have nx0atoms : x0.atoms.length ≤ 1048576 := by have h9 := qx0; unfold bulkQuery bulkAtomS at h9; omega
  have nx0atomsi : ∀ y ∈ x0.atoms, y.terms.length ≤ 1048576 := fun y hy => by have h9 := qx0; unfold bulkQuery bulkAtomS at h9; have h8 := sum_ge_mem (f := fun x => bulkAtom x) hy; unfold bulkAtom at h8 h9; omega
  go_wp2_with fail
  refine (szQuery_any x1 _ _ (left (bulkQuery x0) (1048576)) _ (intsV.below' h1head ?_) (atomsV.below' h1atoms ?_) ⟨by omega, by omega⟩).mono ?_
  · (repeat (first | exact B1 | refine ba ?_ | refine bdr ?_ | refine bs ?_ (by simp)))
  · (repeat (first | exact B1 | refine ba ?_ | refine bdr ?_ | refine bs ?_ (by simp)))
  rintro e w2 ⟨rfl, hb2⟩
  have D2 : Below w1.heap.size w1 w2 := bt (by (repeat (first | exact Below.refl _ _ | refine ba ?_ | refine bdr ?_ | refine bs ?_ (by simp)))) hb2
  have B2 : Below w.heap.size w w2 := bt B1 D2
  have b2c0_2 : w2.cell? ⟨w.heap.size, 0, none⟩ = some ((.slice p0head x0.head.length q0head)) := cell_below b2c0_1 D2
  have b2c1_2 : w2.cell? ⟨w.heap.size, 1, none⟩ = some ((.slice p0atoms x0.atoms.length q0atoms)) := cell_below b2c1_1 D2
  have b3c0_2 : w2.cell? ⟨w.heap.size + 1, 0, none⟩ = some ((.slice p1head x1.head.length q1head)) := cell_below b3c0_1 D2
  have b3c1_2 : w2.cell? ⟨w.heap.size + 1, 1, none⟩ = some ((.slice p1atoms x1.atoms.length q1atoms)) := cell_below b3c1_1 D2
  clear b2c0_1 b2c1_1 b3c0_1 b3c1_1
  rcases left_cases (bulkQuery x1) (left (bulkQuery x0) (1048576)) (by omega) with ⟨t0, t1⟩ | ⟨t0, t1⟩
  case inl =>
    have T1 := Lib.hid t1; clear t1
    go_wp2
    go_ret
    exact ⟨rfl, B2⟩
  have T2 := Lib.hid t1; clear t1
  obtain ⟨qx1, ex11, ex12⟩ := left_bd t0 (by omega) (by omega)
  clear t0
  have nx1head : x1.head.length ≤ 1048576 := by have h9 := qx1; unfold bulkQuery at h9; omega
  have nx1atoms : x1.atoms.length ≤ 1048576 := by have h9 := qx1; unfold bulkQuery bulkAtomS at h9; omega
  have nx1atomsi : ∀ y ∈ x1.atoms, y.terms.length ≤ 1048576 := fun y hy => by have h9 := qx1; unfold bulkQuery bulkAtomS at h9; have h8 := sum_ge_mem (f := fun x => bulkAtom x) hy; unfold bulkAtom at h8 h9; omega
  go_wp2_with fail
  go_region_held3 (fun w' => w'.cell? ⟨w.heap.size, 0, none⟩ = some ((.slice p0head x0.head.length q0head)) ∧ w'.cell? ⟨w.heap.size, 1, none⟩ = some ((.slice p0atoms x0.atoms.length q0atoms)) ∧ w'.cell? ⟨w.heap.size + 1, 0, none⟩ = some ((.slice p1head x1.head.length q1head)) ∧ w'.cell? ⟨w.heap.size + 1, 1, none⟩ = some ((.slice p1atoms x1.atoms.length q1atoms))) (first | exact ⟨b2c0_2, b2c1_2, b3c0_2, b3c1_2⟩ | exact ⟨b2c0_3, b2c1_3, b3c0_3, b3c1_3⟩ | exact ⟨b2c0_4, b2c1_4, b3c0_4, b3c1_4⟩ | exact ⟨b2c0_5, b2c1_5, b3c0_5, b3c1_5⟩)
    (first
      | (go_at_call 86
         with_reducible refine (toQuery_any x0 _ _ _ (intsV.below' h0head ?_) nx0head (atomsV.below' h0atoms ?_) nx0atoms nx0atomsi).mono ?_
         · (repeat (first | exact B2 | refine ba ?_ | refine bdr ?_ | refine bs ?_ (by simp)))
         · (repeat (first | exact B2 | refine ba ?_ | refine bdr ?_ | refine bs ?_ (by simp)))
         rintro e w3 ⟨d1vhead, d1vatoms, d1fhead, d1fatoms, rfl, d1hhead_3, d1hatoms_3, d1fr, hb3⟩
         obtain ⟨d1ahead, d1chead, rfl⟩ := slR.form d1hhead_3
         obtain ⟨d1aatoms, d1catoms, rfl⟩ := slR.form d1hatoms_3
         have D3 : Below w2.heap.size w2 w3 := bt (by (repeat (first | exact Below.refl _ _ | refine ba ?_ | refine bdr ?_ | refine bs ?_ (by simp)))) hb3
         have B3 : Below w.heap.size w w3 := bt B2 D3
         have b2c0_3 : w3.cell? ⟨w.heap.size, 0, none⟩ = some ((.slice p0head x0.head.length q0head)) := cell_below b2c0_2 D3
         have b2c1_3 : w3.cell? ⟨w.heap.size, 1, none⟩ = some ((.slice p0atoms x0.atoms.length q0atoms)) := cell_below b2c1_2 D3
         have b3c0_3 : w3.cell? ⟨w.heap.size + 1, 0, none⟩ = some ((.slice p1head x1.head.length q1head)) := cell_below b3c0_2 D3
         have b3c1_3 : w3.cell? ⟨w.heap.size + 1, 1, none⟩ = some ((.slice p1atoms x1.atoms.length q1atoms)) := cell_below b3c1_2 D3)
      | (go_at_call 86
         with_reducible refine (toQuery_any x1 _ _ _ (intsV.below' h1head ?_) nx1head (atomsV.below' h1atoms ?_) nx1atoms nx1atomsi).mono ?_
         · (repeat (first | exact B3 | refine ba ?_ | refine bdr ?_ | refine bs ?_ (by simp)))
         · (repeat (first | exact B3 | refine ba ?_ | refine bdr ?_ | refine bs ?_ (by simp)))
         rintro e w4 ⟨d2vhead, d2vatoms, d2fhead, d2fatoms, rfl, d2hhead_4, d2hatoms_4, d2fr, hb4⟩
         obtain ⟨d2ahead, d2chead, rfl⟩ := slR.form d2hhead_4
         obtain ⟨d2aatoms, d2catoms, rfl⟩ := slR.form d2hatoms_4
         have D4 : Below w3.heap.size w3 w4 := bt (by (repeat (first | exact Below.refl _ _ | refine ba ?_ | refine bdr ?_ | refine bs ?_ (by simp)))) hb4
         have B4 : Below w.heap.size w w4 := bt B3 D4
         have b2c0_4 : w4.cell? ⟨w.heap.size, 0, none⟩ = some ((.slice p0head x0.head.length q0head)) := cell_below b2c0_3 D4
         have b2c1_4 : w4.cell? ⟨w.heap.size, 1, none⟩ = some ((.slice p0atoms x0.atoms.length q0atoms)) := cell_below b2c1_3 D4
         have b3c0_4 : w4.cell? ⟨w.heap.size + 1, 0, none⟩ = some ((.slice p1head x1.head.length q1head)) := cell_below b3c0_3 D4
         have b3c1_4 : w4.cell? ⟨w.heap.size + 1, 1, none⟩ = some ((.slice p1atoms x1.atoms.length q1atoms)) := cell_below b3c1_3 D4
         have d1hhead_4 := d1hhead_3.below' D4
         have d1hatoms_4 := d1hatoms_3.below' D4)
      | (go_at_call 85
         with_reducible refine (specSameQueries_any x0 x1 _ _ _ _ _ _ _ _ _ (ints.below' d1hhead_4 ?_) (atoms.below' d1hatoms_4 ?_) (ints.below' d2hhead_4 ?_) (atoms.below' d2hatoms_4 ?_)).mono ?_
         · (repeat (first | exact Below.refl _ _ | refine ba ?_ | refine bdr ?_ | refine bs ?_ (by simp)))
         · (repeat (first | exact Below.refl _ _ | refine ba ?_ | refine bdr ?_ | refine bs ?_ (by simp)))
         · (repeat (first | exact Below.refl _ _ | refine ba ?_ | refine bdr ?_ | refine bs ?_ (by simp)))
         · (repeat (first | exact Below.refl _ _ | refine ba ?_ | refine bdr ?_ | refine bs ?_ (by simp)))
         rintro e w5 ⟨rfl, hb5⟩
         have D5 : Below w4.heap.size w4 w5 := bt (by (repeat (first | exact Below.refl _ _ | refine ba ?_ | refine bdr ?_ | refine bs ?_ (by simp)))) hb5
         have B5 : Below w.heap.size w w5 := bt B4 D5
         have b2c0_5 : w5.cell? ⟨w.heap.size, 0, none⟩ = some ((.slice p0head x0.head.length q0head)) := cell_below b2c0_4 D5
         have b2c1_5 : w5.cell? ⟨w.heap.size, 1, none⟩ = some ((.slice p0atoms x0.atoms.length q0atoms)) := cell_below b2c1_4 D5
         have b3c0_5 : w5.cell? ⟨w.heap.size + 1, 0, none⟩ = some ((.slice p1head x1.head.length q1head)) := cell_below b3c0_4 D5
         have b3c1_5 : w5.cell? ⟨w.heap.size + 1, 1, none⟩ = some ((.slice p1atoms x1.atoms.length q1atoms)) := cell_below b3c1_4 D5))
  clear b2c0_2 b2c1_2 b3c0_2 b3c1_2 b2c0_3 b2c1_3 b3c0_3 b3c1_3 d1hhead_3 d1hatoms_3 b2c0_4 b2c1_4 b3c0_4 b3c1_4 d1hhead_4 d1hatoms_4 d2hhead_4 d2hatoms_4
  go_wp2_with fail
  refine (toQuery_any x0 _ _ _ (intsV.below' h0head ?_) nx0head (atomsV.below' h0atoms ?_) nx0atoms nx0atomsi).mono ?_
  · (repeat (first | exact B5 | refine ba ?_ | refine bdr ?_ | refine bs ?_ (by simp)))
  · (repeat (first | exact B5 | refine ba ?_ | refine bdr ?_ | refine bs ?_ (by simp)))
  rintro e w6 ⟨d3vhead, d3vatoms, d3fhead, d3fatoms, rfl, d3hhead_6, d3hatoms_6, d3fr, hb6⟩
  obtain ⟨d3ahead, d3chead, rfl⟩ := slR.form d3hhead_6
  obtain ⟨d3aatoms, d3catoms, rfl⟩ := slR.form d3hatoms_6
  have D6 : Below w5.heap.size w5 w6 := bt (by (repeat (first | exact Below.refl _ _ | refine ba ?_ | refine bdr ?_ | refine bs ?_ (by simp)))) hb6
  have B6 : Below w.heap.size w w6 := bt B5 D6
  have b2c0_6 : w6.cell? ⟨w.heap.size, 0, none⟩ = some ((.slice p0head x0.head.length q0head)) := cell_below b2c0_5 D6
  have b2c1_6 : w6.cell? ⟨w.heap.size, 1, none⟩ = some ((.slice p0atoms x0.atoms.length q0atoms)) := cell_below b2c1_5 D6
  have b3c0_6 : w6.cell? ⟨w.heap.size + 1, 0, none⟩ = some ((.slice p1head x1.head.length q1head)) := cell_below b3c0_5 D6
  have b3c1_6 : w6.cell? ⟨w.heap.size + 1, 1, none⟩ = some ((.slice p1atoms x1.atoms.length q1atoms)) := cell_below b3c1_5 D6
  clear b2c0_5 b2c1_5 b3c0_5 b3c1_5
  have b2c0_6n := fun o => cell_al b2c0_6 o
  have b2c1_6n := fun o => cell_al b2c1_6 o
  have b3c0_6n := fun o => cell_al b3c0_6 o
  have b3c1_6n := fun o => cell_al b3c1_6 o
  go_wp2_with fail
  refine (toQuery_any x1 _ _ _ (intsV.below' h1head ?_) nx1head (atomsV.below' h1atoms ?_) nx1atoms nx1atomsi).mono ?_
  · (repeat (first | exact B6 | refine ba ?_ | refine bdr ?_ | refine bs ?_ (by simp)))
  · (repeat (first | exact B6 | refine ba ?_ | refine bdr ?_ | refine bs ?_ (by simp)))
  rintro e w7 ⟨d4vhead, d4vatoms, d4fhead, d4fatoms, rfl, d4hhead_7, d4hatoms_7, d4fr, hb7⟩
  obtain ⟨d4ahead, d4chead, rfl⟩ := slR.form d4hhead_7
  obtain ⟨d4aatoms, d4catoms, rfl⟩ := slR.form d4hatoms_7
  have D7 : Below w6.heap.size w6 w7 := bt (by (repeat (first | exact Below.refl _ _ | refine ba ?_ | refine bdr ?_ | refine bs ?_ (by simp)))) hb7
  have B7 : Below w.heap.size w w7 := bt B6 D7
  have b2c0_7 : w7.cell? ⟨w.heap.size, 0, none⟩ = some ((.slice p0head x0.head.length q0head)) := cell_below b2c0_6 D7
  have b2c1_7 : w7.cell? ⟨w.heap.size, 1, none⟩ = some ((.slice p0atoms x0.atoms.length q0atoms)) := cell_below b2c1_6 D7
  have b3c0_7 : w7.cell? ⟨w.heap.size + 1, 0, none⟩ = some ((.slice p1head x1.head.length q1head)) := cell_below b3c0_6 D7
  have b3c1_7 : w7.cell? ⟨w.heap.size + 1, 1, none⟩ = some ((.slice p1atoms x1.atoms.length q1atoms)) := cell_below b3c1_6 D7
  have b7c0_7 : w7.cell? ⟨w6.heap.size, 0, none⟩ = some ((.slice d3ahead x0.head.length d3chead)) := cell_below (cell_new _ _ _ 0 _ rfl) hb7
  have b7c1_7 : w7.cell? ⟨w6.heap.size, 1, none⟩ = some ((.slice d3aatoms x0.atoms.length d3catoms)) := cell_below (cell_new _ _ _ 1 _ rfl) hb7
  have d3hhead_7 := d3hhead_6.below' D7
  have d3hatoms_7 := d3hatoms_6.below' D7
  clear b2c0_6 b2c1_6 b3c0_6 b3c1_6 d3hhead_6 d3hatoms_6 b2c0_6n b2c1_6n b3c0_6n b3c1_6n
  have b2c0_7n := fun o => cell_al b2c0_7 o
  have b2c1_7n := fun o => cell_al b2c1_7 o
  have b3c0_7n := fun o => cell_al b3c0_7 o
  have b3c1_7n := fun o => cell_al b3c1_7 o
  have b7c0_7n := fun o => cell_al b7c0_7 o
  have b7c1_7n := fun o => cell_al b7c1_7 o
  go_wp2_with fail
  refine (implSameQueries_any x0 x1 _ _ _ _ _ _ _ _ _ (ints.below' d3hhead_7 ?_) (atoms.below' d3hatoms_7 ?_) (ints.below' d4hhead_7 ?_) (atoms.below' d4hatoms_7 ?_)).mono ?_
  · (repeat (first | exact Below.refl _ _ | refine ba ?_ | refine bdr ?_ | refine bs ?_ (by simp)))
  · (repeat (first | exact Below.refl _ _ | refine ba ?_ | refine bdr ?_ | refine bs ?_ (by simp)))
  · (repeat (first | exact Below.refl _ _ | refine ba ?_ | refine bdr ?_ | refine bs ?_ (by simp)))
  · (repeat (first | exact Below.refl _ _ | refine ba ?_ | refine bdr ?_ | refine bs ?_ (by simp)))
  rintro e w8 ⟨rfl, hb8⟩
  have D8 : Below w7.heap.size w7 w8 := bt (by (repeat (first | exact Below.refl _ _ | refine ba ?_ | refine bdr ?_ | refine bs ?_ (by simp)))) hb8
  have B8 : Below w.heap.size w w8 := bt B7 D8
  have b2c0_8 : w8.cell? ⟨w.heap.size, 0, none⟩ = some ((.slice p0head x0.head.length q0head)) := cell_below b2c0_7 D8
  have b2c1_8 : w8.cell? ⟨w.heap.size, 1, none⟩ = some ((.slice p0atoms x0.atoms.length q0atoms)) := cell_below b2c1_7 D8
  have b3c0_8 : w8.cell? ⟨w.heap.size + 1, 0, none⟩ = some ((.slice p1head x1.head.length q1head)) := cell_below b3c0_7 D8
  have b3c1_8 : w8.cell? ⟨w.heap.size + 1, 1, none⟩ = some ((.slice p1atoms x1.atoms.length q1atoms)) := cell_below b3c1_7 D8
  have b7c0_8 : w8.cell? ⟨w6.heap.size, 0, none⟩ = some ((.slice d3ahead x0.head.length d3chead)) := cell_below b7c0_7 D8
  have b7c1_8 : w8.cell? ⟨w6.heap.size, 1, none⟩ = some ((.slice d3aatoms x0.atoms.length d3catoms)) := cell_below b7c1_7 D8
  have b8c0_8 : w8.cell? ⟨w7.heap.size, 0, none⟩ = some ((.slice d4ahead x1.head.length d4chead)) := cell_below (cell_new _ _ _ 0 _ rfl) hb8
  have b8c1_8 : w8.cell? ⟨w7.heap.size, 1, none⟩ = some ((.slice d4aatoms x1.atoms.length d4catoms)) := cell_below (cell_new _ _ _ 1 _ rfl) hb8
  have d3hhead_8 := d3hhead_7.below' D8
  have d3hatoms_8 := d3hatoms_7.below' D8
  have d4hhead_8 := d4hhead_7.below' D8
  have d4hatoms_8 := d4hatoms_7.below' D8
  clear b2c0_7 b2c1_7 b3c0_7 b3c1_7 b7c0_7 b7c1_7 d3hhead_7 d3hatoms_7 d4hhead_7 d4hatoms_7 b2c0_7n b2c1_7n b3c0_7n b3c1_7n b7c0_7n b7c1_7n
  go_wp2_with fail
  go_region_held3 (fun w' => w'.cell? ⟨w6.heap.size, 0, none⟩ = some ((.slice d3ahead x0.head.length d3chead)) ∧ w'.cell? ⟨w6.heap.size, 1, none⟩ = some ((.slice d3aatoms x0.atoms.length d3catoms)) ∧ w'.cell? ⟨w.heap.size, 0, none⟩ = some ((.slice p0head x0.head.length q0head)) ∧ w'.cell? ⟨w.heap.size, 1, none⟩ = some ((.slice p0atoms x0.atoms.length q0atoms))) (first | exact ⟨b7c0_8, b7c1_8, b2c0_8, b2c1_8⟩ | exact ⟨b7c0_9, b7c1_9, b2c0_9, b2c1_9⟩ | exact ⟨b7c0_10, b7c1_10, b2c0_10, b2c1_10⟩)
    (first
      | (go_at_call 86
         with_reducible refine (toQuery_any x0 _ _ _ (intsV.below' h0head ?_) nx0head (atomsV.below' h0atoms ?_) nx0atoms nx0atomsi).mono ?_
         · (repeat (first | exact B8 | refine ba ?_ | refine bdr ?_ | refine bs ?_ (by simp)))
         · (repeat (first | exact B8 | refine ba ?_ | refine bdr ?_ | refine bs ?_ (by simp)))
         rintro e w9 ⟨d5vhead, d5vatoms, d5fhead, d5fatoms, rfl, d5hhead_9, d5hatoms_9, d5fr, hb9⟩
         obtain ⟨d5ahead, d5chead, rfl⟩ := slR.form d5hhead_9
         obtain ⟨d5aatoms, d5catoms, rfl⟩ := slR.form d5hatoms_9
         have D9 : Below w8.heap.size w8 w9 := bt (by (repeat (first | exact Below.refl _ _ | refine ba ?_ | refine bdr ?_ | refine bs ?_ (by simp)))) hb9
         have B9 : Below w.heap.size w w9 := bt B8 D9
         have b2c0_9 : w9.cell? ⟨w.heap.size, 0, none⟩ = some ((.slice p0head x0.head.length q0head)) := cell_below b2c0_8 D9
         have b2c1_9 : w9.cell? ⟨w.heap.size, 1, none⟩ = some ((.slice p0atoms x0.atoms.length q0atoms)) := cell_below b2c1_8 D9
         have b3c0_9 : w9.cell? ⟨w.heap.size + 1, 0, none⟩ = some ((.slice p1head x1.head.length q1head)) := cell_below b3c0_8 D9
         have b3c1_9 : w9.cell? ⟨w.heap.size + 1, 1, none⟩ = some ((.slice p1atoms x1.atoms.length q1atoms)) := cell_below b3c1_8 D9
         have b7c0_9 : w9.cell? ⟨w6.heap.size, 0, none⟩ = some ((.slice d3ahead x0.head.length d3chead)) := cell_below b7c0_8 D9
         have b7c1_9 : w9.cell? ⟨w6.heap.size, 1, none⟩ = some ((.slice d3aatoms x0.atoms.length d3catoms)) := cell_below b7c1_8 D9
         have b8c0_9 : w9.cell? ⟨w7.heap.size, 0, none⟩ = some ((.slice d4ahead x1.head.length d4chead)) := cell_below b8c0_8 D9
         have b8c1_9 : w9.cell? ⟨w7.heap.size, 1, none⟩ = some ((.slice d4aatoms x1.atoms.length d4catoms)) := cell_below b8c1_8 D9
         have d3hhead_9 := d3hhead_8.below' D9
         have d3hatoms_9 := d3hatoms_8.below' D9
         have d4hhead_9 := d4hhead_8.below' D9
         have d4hatoms_9 := d4hatoms_8.below' D9)
      | (go_at_call 88
         with_reducible refine (eqQuery_any x0 x0 _ _ _ _ _ _ _ _ _ (ints.below' d3hhead_9 ?_) (ints.below' d5hhead_9 ?_) (atoms.below' d3hatoms_9 ?_) (atoms.below' d5hatoms_9 ?_)).mono ?_
         · (repeat (first | exact Below.refl _ _ | refine ba ?_ | refine bdr ?_ | refine bs ?_ (by simp)))
         · (repeat (first | exact Below.refl _ _ | refine ba ?_ | refine bdr ?_ | refine bs ?_ (by simp)))
         · (repeat (first | exact Below.refl _ _ | refine ba ?_ | refine bdr ?_ | refine bs ?_ (by simp)))
         · (repeat (first | exact Below.refl _ _ | refine ba ?_ | refine bdr ?_ | refine bs ?_ (by simp)))
         rintro e w10 ⟨rfl, hb10⟩
         have D10 : Below w9.heap.size w9 w10 := bt (by (repeat (first | exact Below.refl _ _ | refine ba ?_ | refine bdr ?_ | refine bs ?_ (by simp)))) hb10
         have B10 : Below w.heap.size w w10 := bt B9 D10
         have b2c0_10 : w10.cell? ⟨w.heap.size, 0, none⟩ = some ((.slice p0head x0.head.length q0head)) := cell_below b2c0_9 D10
         have b2c1_10 : w10.cell? ⟨w.heap.size, 1, none⟩ = some ((.slice p0atoms x0.atoms.length q0atoms)) := cell_below b2c1_9 D10
         have b3c0_10 : w10.cell? ⟨w.heap.size + 1, 0, none⟩ = some ((.slice p1head x1.head.length q1head)) := cell_below b3c0_9 D10
         have b3c1_10 : w10.cell? ⟨w.heap.size + 1, 1, none⟩ = some ((.slice p1atoms x1.atoms.length q1atoms)) := cell_below b3c1_9 D10
         have b7c0_10 : w10.cell? ⟨w6.heap.size, 0, none⟩ = some ((.slice d3ahead x0.head.length d3chead)) := cell_below b7c0_9 D10
         have b7c1_10 : w10.cell? ⟨w6.heap.size, 1, none⟩ = some ((.slice d3aatoms x0.atoms.length d3catoms)) := cell_below b7c1_9 D10
         have b8c0_10 : w10.cell? ⟨w7.heap.size, 0, none⟩ = some ((.slice d4ahead x1.head.length d4chead)) := cell_below b8c0_9 D10
         have b8c1_10 : w10.cell? ⟨w7.heap.size, 1, none⟩ = some ((.slice d4aatoms x1.atoms.length d4catoms)) := cell_below b8c1_9 D10
         have d4hhead_10 := d4hhead_9.below' D10
         have d4hatoms_10 := d4hatoms_9.below' D10))
  clear b2c0_8 b2c1_8 b3c0_8 b3c1_8 b7c0_8 b7c1_8 b8c0_8 b8c1_8 d3hhead_8 d3hatoms_8 d4hhead_8 d4hatoms_8 b2c0_9 b2c1_9 b3c0_9 b3c1_9 b7c0_9 b7c1_9 b8c0_9 b8c1_9 d3hhead_9 d3hatoms_9 d4hhead_9 d4hatoms_9 d5hhead_9 d5hatoms_9
  go_wp2_with fail
  go_region_held3 (fun w' => w'.cell? ⟨w7.heap.size, 0, none⟩ = some ((.slice d4ahead x1.head.length d4chead)) ∧ w'.cell? ⟨w7.heap.size, 1, none⟩ = some ((.slice d4aatoms x1.atoms.length d4catoms)) ∧ w'.cell? ⟨w.heap.size + 1, 0, none⟩ = some ((.slice p1head x1.head.length q1head)) ∧ w'.cell? ⟨w.heap.size + 1, 1, none⟩ = some ((.slice p1atoms x1.atoms.length q1atoms))) (first | exact ⟨b8c0_10, b8c1_10, b3c0_10, b3c1_10⟩ | exact ⟨b8c0_11, b8c1_11, b3c0_11, b3c1_11⟩ | exact ⟨b8c0_12, b8c1_12, b3c0_12, b3c1_12⟩)
    (first
      | (go_at_call 86
         with_reducible refine (toQuery_any x1 _ _ _ (intsV.below' h1head ?_) nx1head (atomsV.below' h1atoms ?_) nx1atoms nx1atomsi).mono ?_
         · (repeat (first | exact B10 | refine ba ?_ | refine bdr ?_ | refine bs ?_ (by simp)))
         · (repeat (first | exact B10 | refine ba ?_ | refine bdr ?_ | refine bs ?_ (by simp)))
         rintro e w11 ⟨d6vhead, d6vatoms, d6fhead, d6fatoms, rfl, d6hhead_11, d6hatoms_11, d6fr, hb11⟩
         obtain ⟨d6ahead, d6chead, rfl⟩ := slR.form d6hhead_11
         obtain ⟨d6aatoms, d6catoms, rfl⟩ := slR.form d6hatoms_11
         have D11 : Below w10.heap.size w10 w11 := bt (by (repeat (first | exact Below.refl _ _ | refine ba ?_ | refine bdr ?_ | refine bs ?_ (by simp)))) hb11
         have B11 : Below w.heap.size w w11 := bt B10 D11
         have b3c0_11 : w11.cell? ⟨w.heap.size + 1, 0, none⟩ = some ((.slice p1head x1.head.length q1head)) := cell_below b3c0_10 D11
         have b3c1_11 : w11.cell? ⟨w.heap.size + 1, 1, none⟩ = some ((.slice p1atoms x1.atoms.length q1atoms)) := cell_below b3c1_10 D11
         have b8c0_11 : w11.cell? ⟨w7.heap.size, 0, none⟩ = some ((.slice d4ahead x1.head.length d4chead)) := cell_below b8c0_10 D11
         have b8c1_11 : w11.cell? ⟨w7.heap.size, 1, none⟩ = some ((.slice d4aatoms x1.atoms.length d4catoms)) := cell_below b8c1_10 D11
         have d4hhead_11 := d4hhead_10.below' D11
         have d4hatoms_11 := d4hatoms_10.below' D11)
      | (go_at_call 88
         with_reducible refine (eqQuery_any x1 x1 _ _ _ _ _ _ _ _ _ (ints.below' d4hhead_11 ?_) (ints.below' d6hhead_11 ?_) (atoms.below' d4hatoms_11 ?_) (atoms.below' d6hatoms_11 ?_)).mono ?_
         · (repeat (first | exact Below.refl _ _ | refine ba ?_ | refine bdr ?_ | refine bs ?_ (by simp)))
         · (repeat (first | exact Below.refl _ _ | refine ba ?_ | refine bdr ?_ | refine bs ?_ (by simp)))
         · (repeat (first | exact Below.refl _ _ | refine ba ?_ | refine bdr ?_ | refine bs ?_ (by simp)))
         · (repeat (first | exact Below.refl _ _ | refine ba ?_ | refine bdr ?_ | refine bs ?_ (by simp)))
         rintro e w12 ⟨rfl, hb12⟩
         have D12 : Below w11.heap.size w11 w12 := bt (by (repeat (first | exact Below.refl _ _ | refine ba ?_ | refine bdr ?_ | refine bs ?_ (by simp)))) hb12
         have B12 : Below w.heap.size w w12 := bt B11 D12
         have b3c0_12 : w12.cell? ⟨w.heap.size + 1, 0, none⟩ = some ((.slice p1head x1.head.length q1head)) := cell_below b3c0_11 D12
         have b3c1_12 : w12.cell? ⟨w.heap.size + 1, 1, none⟩ = some ((.slice p1atoms x1.atoms.length q1atoms)) := cell_below b3c1_11 D12
         have b8c0_12 : w12.cell? ⟨w7.heap.size, 0, none⟩ = some ((.slice d4ahead x1.head.length d4chead)) := cell_below b8c0_11 D12
         have b8c1_12 : w12.cell? ⟨w7.heap.size, 1, none⟩ = some ((.slice d4aatoms x1.atoms.length d4catoms)) := cell_below b8c1_11 D12))
  clear b2c0_10 b2c1_10 b3c0_10 b3c1_10 b7c0_10 b7c1_10 b8c0_10 b8c1_10 d4hhead_10 d4hatoms_10 b3c0_11 b3c1_11 b8c0_11 b8c1_11 d4hhead_11 d4hatoms_11 d6hhead_11 d6hatoms_11
  go_wp2
  go_ret
  exact ⟨rfl, B12⟩
end Go.Proofs.Ytkhihnoeapfaaaa
