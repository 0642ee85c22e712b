/- The walk of the law FnExactConstantsOf: it returns true, whatever the input. -/
import Derived.Test.YtinmiekbidfblaaVarsS
import Derived.Test.YtinmiekbidfblaaVarsI
import Derived.Test.YtinmiekbidfblaaVarsB
import Derived.Test.YtinmiekbidfblaaFacts0
namespace Go.Proofs.Ytinmiekbidfblaa
open Go.RowKit
set_option linter.unusedVariables false
set_option linter.unusedSimpArgs false
set_option maxRecDepth 100000 in
set_option maxHeartbeats 8000000 in
theorem fnExactConstantsOf_walk (cs0 : List Value) (x0 : QueryD) (w : World) (g0 : queryW w cs0 x0)  :
    Calls Try.prog 12 #[.agg cs0.toArray] w fun e w' => e = .returned (.bool true) ∧ Below w.heap.size w w' := by
  obtain ⟨v0head, v0atoms, rfl, h0head, h0atoms⟩ := g0
  obtain ⟨p0head, q0head, rfl⟩ := slW.form h0head
  obtain ⟨p0atoms, q0atoms, rfl⟩ := slW.form h0atoms
  have b1c0_0 : (w.alloc (.cells #[(.slice p0head x0.head.length q0head), (.slice p0atoms x0.atoms.length q0atoms)] 78)).cell? ⟨w.heap.size, 0, none⟩ = some ((.slice p0head x0.head.length q0head)) := cell_new w _ _ 0 _ rfl
  have b1c1_0 : (w.alloc (.cells #[(.slice p0head x0.head.length q0head), (.slice p0atoms x0.atoms.length q0atoms)] 78)).cell? ⟨w.heap.size, 1, none⟩ = some ((.slice p0atoms x0.atoms.length q0atoms)) := cell_new w _ _ 1 _ rfl
  have rr : decide (setOf isVal (termsL x0.atoms) = setOf isVal (termsL x0.atoms)) = true := by simp
  have rd0 : decide (x0 = x0) = true := by simp
  go_enter Try.func12, Try.ntmps12
  go_wp2_with fail
  refine (szQuery_any x0 _ _ (1048576) _ (intsV.below' h0head ?_) (atomsV.below' h0atoms ?_) ⟨by omega, by omega⟩).mono ?_
  · (repeat (first | exact Below.refl _ _ | refine ba ?_ | refine bdr ?_ | refine bs ?_ (by simp)))
  · (repeat (first | exact Below.refl _ _ | refine ba ?_ | refine bdr ?_ | refine bs ?_ (by simp)))
  rintro e w1 ⟨rfl, hb1⟩
  have D1 : Below w.heap.size w w1 := bt (by (repeat (first | exact Below.refl _ _ | refine ba ?_ | refine bdr ?_ | refine bs ?_ (by simp)))) hb1
  have B1 : Below w.heap.size w w1 := D1
  have b1c0_1 : w1.cell? ⟨w.heap.size, 0, none⟩ = some ((.slice p0head x0.head.length q0head)) := cell_below (b1c0_0) hb1
  have b1c1_1 : w1.cell? ⟨w.heap.size, 1, none⟩ = some ((.slice p0atoms x0.atoms.length q0atoms)) := cell_below (b1c1_0) hb1
  clear b1c0_0 b1c1_0
  rcases left_cases (bulkQuery x0) (1048576) (by omega) with ⟨t0, t1⟩ | ⟨t0, t1⟩
  case inl =>
    have T1 := Lib.hid t1; clear t1
    go_wp2
    go_ret
    exact ⟨rfl, B1⟩
  have T1 := Lib.hid t1; clear t1
  obtain ⟨qx0, ex01, ex02⟩ := left_bd t0 (by omega) (by omega)
  clear t0
  have nx0head : x0.head.length ≤ 1048576 := by have h9 := qx0; unfold bulkQuery at h9; omega
  have nx0atoms : x0.atoms.length ≤ 1048576 := by have h9 := qx0; unfold bulkQuery bulkAtomS at h9; omega
  have nx0atomsi : ∀ y ∈ x0.atoms, y.terms.length ≤ 1048576 := fun y hy => by have h9 := qx0; unfold bulkQuery bulkAtomS at h9; have h8 := sum_ge_mem (f := fun x => bulkAtom x) hy; unfold bulkAtom at h8 h9; omega
  have nT : (termsL x0.atoms).length ≤ 1048576 := termsL_bulk qx0
  have nC : (x0.atoms.map cntAtom).sum ≤ 2097152 := cnt_bulk qx0
  have nR : (setOf isVal (termsL x0.atoms)).length ≤ 1048576 := Nat.le_trans (setOf_length _ _) nT
  go_wp2_with fail
  refine (toQuery_any x0 _ _ _ (intsV.below' h0head ?_) nx0head (atomsV.below' h0atoms ?_) nx0atoms nx0atomsi).mono ?_
  · (repeat (first | exact B1 | refine ba ?_ | refine bdr ?_ | refine bs ?_ (by simp)))
  · (repeat (first | exact B1 | refine ba ?_ | refine bdr ?_ | refine bs ?_ (by simp)))
  rintro e w2 ⟨d1vhead, d1vatoms, d1fhead, d1fatoms, rfl, d1hhead_2, d1hatoms_2, d1fr, hb2⟩
  obtain ⟨d1ahead, d1chead, rfl⟩ := slR.form d1hhead_2
  obtain ⟨d1aatoms, d1catoms, rfl⟩ := slR.form d1hatoms_2
  have D2 : Below w1.heap.size w1 w2 := bt (by (repeat (first | exact Below.refl _ _ | refine ba ?_ | refine bdr ?_ | refine bs ?_ (by simp)))) hb2
  have B2 : Below w.heap.size w w2 := bt B1 D2
  have b1c0_2 : w2.cell? ⟨w.heap.size, 0, none⟩ = some ((.slice p0head x0.head.length q0head)) := cell_below b1c0_1 D2
  have b1c1_2 : w2.cell? ⟨w.heap.size, 1, none⟩ = some ((.slice p0atoms x0.atoms.length q0atoms)) := cell_below b1c1_1 D2
  clear b1c0_1 b1c1_1
  go_wp2_with fail
  refine (specConstantsOf_any x0 _ _ _ _ _ (ints.below' d1hhead_2 ?_) (atoms.below' d1hatoms_2 ?_) nT).mono ?_
  · (repeat (first | exact Below.refl _ _ | refine ba ?_ | refine bdr ?_ | refine bs ?_ (by simp)))
  · (repeat (first | exact Below.refl _ _ | refine ba ?_ | refine bdr ?_ | refine bs ?_ (by simp)))
  rintro e w3 ⟨d2v, d2f, rfl, d2h_3, hb3⟩
  obtain ⟨d2a, d2c, rfl⟩ := slR.form d2h_3
  have D3 : Below w2.heap.size w2 w3 := bt (by (repeat (first | exact Below.refl _ _ | refine ba ?_ | refine bdr ?_ | refine bs ?_ (by simp)))) hb3
  have B3 : Below w.heap.size w w3 := bt B2 D3
  have b1c0_3 : w3.cell? ⟨w.heap.size, 0, none⟩ = some ((.slice p0head x0.head.length q0head)) := cell_below b1c0_2 D3
  have b1c1_3 : w3.cell? ⟨w.heap.size, 1, none⟩ = some ((.slice p0atoms x0.atoms.length q0atoms)) := cell_below b1c1_2 D3
  clear b1c0_2 b1c1_2 d1hhead_2 d1hatoms_2
  go_wp2_with fail
  refine (toQuery_any x0 _ _ _ (intsV.below' h0head ?_) nx0head (atomsV.below' h0atoms ?_) nx0atoms nx0atomsi).mono ?_
  · (repeat (first | exact B3 | refine ba ?_ | refine bdr ?_ | refine bs ?_ (by simp)))
  · (repeat (first | exact B3 | refine ba ?_ | refine bdr ?_ | refine bs ?_ (by simp)))
  rintro e w4 ⟨d3vhead, d3vatoms, d3fhead, d3fatoms, rfl, d3hhead_4, d3hatoms_4, d3fr, hb4⟩
  obtain ⟨d3ahead, d3chead, rfl⟩ := slR.form d3hhead_4
  obtain ⟨d3aatoms, d3catoms, rfl⟩ := slR.form d3hatoms_4
  have d3F : Fresh w3.heap.size (d3fhead ++ d3fatoms) := d3fr.mono (Below.size (B := w3.heap.size) (by (repeat (first | exact Below.refl _ _ | refine ba ?_ | refine bdr ?_ | refine bs ?_ (by simp)))))
  have Xd2f_d3 : ∀ g ∈ d2f, g ∉ d3fhead ++ d3fatoms := fun g hg => d3F.notin (d2h_3.lt g hg)
  have d3L : ∀ g ∈ d3fhead ++ d3fatoms, w.heap.size ≤ g := fun g hg => Nat.le_trans (Below.size B3) (d3F.2 g hg)
  have Nb1_d3 : w.heap.size ∉ d3fhead ++ d3fatoms := d3F.notin (lt_of_cell b1c0_3)
  have D4 : Below w3.heap.size w3 w4 := bt (by (repeat (first | exact Below.refl _ _ | refine ba ?_ | refine bdr ?_ | refine bs ?_ (by simp)))) hb4
  have B4 : Below w.heap.size w w4 := bt B3 D4
  have b1c0_4 : w4.cell? ⟨w.heap.size, 0, none⟩ = some ((.slice p0head x0.head.length q0head)) := cell_below b1c0_3 D4
  have b1c1_4 : w4.cell? ⟨w.heap.size, 1, none⟩ = some ((.slice p0atoms x0.atoms.length q0atoms)) := cell_below b1c1_3 D4
  have d2h_4 := d2h_3.below' D4
  clear b1c0_3 b1c1_3 d2h_3
  have b1c0_4n := fun o => cell_al b1c0_4 o
  have b1c1_4n := fun o => cell_al b1c1_4 o
  have Nb5_d3head : w4.heap.size ∉ d3fhead := fun h => Nat.lt_irrefl _ (d3hhead_4.lt _ h)
  have Nb5_d3atoms : w4.heap.size ∉ d3fatoms := fun h => Nat.lt_irrefl _ (d3hatoms_4.lt _ h)
  have Nb5_d3 : w4.heap.size ∉ d3fhead ++ d3fatoms := fun h => (List.mem_append.1 h).elim Nb5_d3head Nb5_d3atoms
  go_wp2_with fail
  refine (implConstantsOf_any x0 _ _ _ _ _ (ints.below' d3hhead_4 ?_) (atoms.below' d3hatoms_4 ?_) nT).mono ?_
  · (repeat (first | exact Below.refl _ _ | refine ba ?_ | refine bdr ?_ | refine bs ?_ (by simp)))
  · (repeat (first | exact Below.refl _ _ | refine ba ?_ | refine bdr ?_ | refine bs ?_ (by simp)))
  rintro e w5 ⟨d4v, d4f, rfl, d4h_5, d4fr, hb5⟩
  obtain ⟨d4a, d4c, rfl⟩ := slR.form d4h_5
  have d4F : Fresh w4.heap.size (d4f) := d4fr.mono (Below.size (B := w4.heap.size) (by (repeat (first | exact Below.refl _ _ | refine ba ?_ | refine bdr ?_ | refine bs ?_ (by simp)))))
  have Xd2f_d4 : ∀ g ∈ d2f, g ∉ d4f := fun g hg => d4F.notin (d2h_4.lt g hg)
  have Xd3fhead_d4 : ∀ g ∈ d3fhead, g ∉ d4f := fun g hg => d4F.notin (d3hhead_4.lt g hg)
  have Xd3fatoms_d4 : ∀ g ∈ d3fatoms, g ∉ d4f := fun g hg => d4F.notin (d3hatoms_4.lt g hg)
  have d4L : ∀ g ∈ d4f, w.heap.size ≤ g := fun g hg => Nat.le_trans (Below.size B4) (d4F.2 g hg)
  have Nb1_d4 : w.heap.size ∉ d4f := d4F.notin (lt_of_cell b1c0_4)
  have Nb5_d4 : w4.heap.size ∉ d4f := d4fr.notin (by simp)
  have D5 : Below w4.heap.size w4 w5 := bt (by (repeat (first | exact Below.refl _ _ | refine ba ?_ | refine bdr ?_ | refine bs ?_ (by simp)))) hb5
  have B5 : Below w.heap.size w w5 := bt B4 D5
  have b1c0_5 : w5.cell? ⟨w.heap.size, 0, none⟩ = some ((.slice p0head x0.head.length q0head)) := cell_below b1c0_4 D5
  have b1c1_5 : w5.cell? ⟨w.heap.size, 1, none⟩ = some ((.slice p0atoms x0.atoms.length q0atoms)) := cell_below b1c1_4 D5
  have b5c0_5 : w5.cell? ⟨w4.heap.size, 0, none⟩ = some ((.slice d3ahead x0.head.length d3chead)) := cell_below (cell_new _ _ _ 0 _ rfl) hb5
  have b5c1_5 : w5.cell? ⟨w4.heap.size, 1, none⟩ = some ((.slice d3aatoms x0.atoms.length d3catoms)) := cell_below (cell_new _ _ _ 1 _ rfl) hb5
  have d2h_5 := d2h_4.below' D5
  have d3hhead_5 := d3hhead_4.below' D5
  have d3hatoms_5 := d3hatoms_4.below' D5
  clear b1c0_4 b1c1_4 d2h_4 d3hhead_4 d3hatoms_4 b1c0_4n b1c1_4n
  go_wp2_with fail
  refine (eqIntS_any _ _ (setOf isVal (termsL x0.atoms)) (setOf isVal (termsL x0.atoms)) _ _ _ (ints.below' d4h_5 ?_) (ints.below' d2h_5 ?_)).mono ?_
  · (repeat (first | exact Below.refl _ _ | refine ba ?_ | refine bdr ?_ | refine bs ?_ (by simp)))
  · (repeat (first | exact Below.refl _ _ | refine ba ?_ | refine bdr ?_ | refine bs ?_ (by simp)))
  rintro e w6 ⟨rfl, hb6⟩
  have D6 : Below w5.heap.size w5 w6 := bt (by (repeat (first | exact Below.refl _ _ | refine ba ?_ | refine bdr ?_ | refine bs ?_ (by simp)))) hb6
  have B6 : Below w.heap.size w w6 := bt B5 D6
  have b1c0_6 : w6.cell? ⟨w.heap.size, 0, none⟩ = some ((.slice p0head x0.head.length q0head)) := cell_below b1c0_5 D6
  have b1c1_6 : w6.cell? ⟨w.heap.size, 1, none⟩ = some ((.slice p0atoms x0.atoms.length q0atoms)) := cell_below b1c1_5 D6
  have b5c0_6 : w6.cell? ⟨w4.heap.size, 0, none⟩ = some ((.slice d3ahead x0.head.length d3chead)) := cell_below b5c0_5 D6
  have b5c1_6 : w6.cell? ⟨w4.heap.size, 1, none⟩ = some ((.slice d3aatoms x0.atoms.length d3catoms)) := cell_below b5c1_5 D6
  have d2h_6 := d2h_5.below' D6
  have d3hhead_6 := d3hhead_5.below' D6
  have d3hatoms_6 := d3hatoms_5.below' D6
  have d4h_6 := d4h_5.below' D6
  clear b1c0_5 b1c1_5 b5c0_5 b5c1_5 d2h_5 d3hhead_5 d3hatoms_5 d4h_5
  go_wp2_with fail
  go_region_held3 (fun w' => w'.cell? ⟨w4.heap.size, 0, none⟩ = some ((.slice d3ahead x0.head.length d3chead)) ∧ w'.cell? ⟨w4.heap.size, 1, none⟩ = some ((.slice d3aatoms x0.atoms.length d3catoms)) ∧ w'.cell? ⟨w.heap.size, 0, none⟩ = some ((.slice p0head x0.head.length q0head)) ∧ w'.cell? ⟨w.heap.size, 1, none⟩ = some ((.slice p0atoms x0.atoms.length q0atoms))) (first | exact ⟨b5c0_6, b5c1_6, b1c0_6, b1c1_6⟩ | exact ⟨b5c0_7, b5c1_7, b1c0_7, b1c1_7⟩ | exact ⟨b5c0_8, b5c1_8, b1c0_8, b1c1_8⟩)
    (first
      | (go_at_call 55
         with_reducible refine (toQuery_any x0 _ _ _ (intsV.below' h0head ?_) nx0head (atomsV.below' h0atoms ?_) nx0atoms nx0atomsi).mono ?_
         · (repeat (first | exact B6 | refine ba ?_ | refine bdr ?_ | refine bs ?_ (by simp)))
         · (repeat (first | exact B6 | refine ba ?_ | refine bdr ?_ | refine bs ?_ (by simp)))
         rintro e w7 ⟨d5vhead, d5vatoms, d5fhead, d5fatoms, rfl, d5hhead_7, d5hatoms_7, d5fr, hb7⟩
         obtain ⟨d5ahead, d5chead, rfl⟩ := slR.form d5hhead_7
         obtain ⟨d5aatoms, d5catoms, rfl⟩ := slR.form d5hatoms_7
         have d5F : Fresh w6.heap.size (d5fhead ++ d5fatoms) := d5fr.mono (Below.size (B := w6.heap.size) (by (repeat (first | exact Below.refl _ _ | refine ba ?_ | refine bdr ?_ | refine bs ?_ (by simp)))))
         have Xd3fhead_d5 : ∀ g ∈ d3fhead, g ∉ d5fhead ++ d5fatoms := fun g hg => d5F.notin (d3hhead_6.lt g hg)
         have Xd3fatoms_d5 : ∀ g ∈ d3fatoms, g ∉ d5fhead ++ d5fatoms := fun g hg => d5F.notin (d3hatoms_6.lt g hg)
         have Xd4f_d5 : ∀ g ∈ d4f, g ∉ d5fhead ++ d5fatoms := fun g hg => d5F.notin (d4h_6.lt g hg)
         have D7 : Below w6.heap.size w6 w7 := bt (by (repeat (first | exact Below.refl _ _ | refine ba ?_ | refine bdr ?_ | refine bs ?_ (by simp)))) hb7
         have B7 : Below w.heap.size w w7 := bt B6 D7
         have b1c0_7 : w7.cell? ⟨w.heap.size, 0, none⟩ = some ((.slice p0head x0.head.length q0head)) := cell_below b1c0_6 D7
         have b1c1_7 : w7.cell? ⟨w.heap.size, 1, none⟩ = some ((.slice p0atoms x0.atoms.length q0atoms)) := cell_below b1c1_6 D7
         have b5c0_7 : w7.cell? ⟨w4.heap.size, 0, none⟩ = some ((.slice d3ahead x0.head.length d3chead)) := cell_below b5c0_6 D7
         have b5c1_7 : w7.cell? ⟨w4.heap.size, 1, none⟩ = some ((.slice d3aatoms x0.atoms.length d3catoms)) := cell_below b5c1_6 D7
         have d2h_7 := d2h_6.below' D7
         have d3hhead_7 := d3hhead_6.below' D7
         have d3hatoms_7 := d3hatoms_6.below' D7
         have d4h_7 := d4h_6.below' D7)
      | (go_at_call 58
         with_reducible refine (eqQuery_any x0 x0 _ _ _ _ _ _ _ _ _ (ints.below' d3hhead_7 ?_) (ints.below' d5hhead_7 ?_) (atoms.below' d3hatoms_7 ?_) (atoms.below' d5hatoms_7 ?_)).mono ?_
         · (repeat (first | exact Below.refl _ _ | refine ba ?_ | refine bdr ?_ | refine bs ?_ (by simp)))
         · (repeat (first | exact Below.refl _ _ | refine ba ?_ | refine bdr ?_ | refine bs ?_ (by simp)))
         · (repeat (first | exact Below.refl _ _ | refine ba ?_ | refine bdr ?_ | refine bs ?_ (by simp)))
         · (repeat (first | exact Below.refl _ _ | refine ba ?_ | refine bdr ?_ | refine bs ?_ (by simp)))
         rintro e w8 ⟨rfl, hb8⟩
         have D8 : Below w7.heap.size w7 w8 := bt (by (repeat (first | exact Below.refl _ _ | refine ba ?_ | refine bdr ?_ | refine bs ?_ (by simp)))) hb8
         have B8 : Below w.heap.size w w8 := bt B7 D8
         have b1c0_8 : w8.cell? ⟨w.heap.size, 0, none⟩ = some ((.slice p0head x0.head.length q0head)) := cell_below b1c0_7 D8
         have b1c1_8 : w8.cell? ⟨w.heap.size, 1, none⟩ = some ((.slice p0atoms x0.atoms.length q0atoms)) := cell_below b1c1_7 D8
         have b5c0_8 : w8.cell? ⟨w4.heap.size, 0, none⟩ = some ((.slice d3ahead x0.head.length d3chead)) := cell_below b5c0_7 D8
         have b5c1_8 : w8.cell? ⟨w4.heap.size, 1, none⟩ = some ((.slice d3aatoms x0.atoms.length d3catoms)) := cell_below b5c1_7 D8
         have d2h_8 := d2h_7.below' D8
         have d3hhead_8 := d3hhead_7.below' D8
         have d3hatoms_8 := d3hatoms_7.below' D8
         have d4h_8 := d4h_7.below' D8))
  clear b1c0_6 b1c1_6 b5c0_6 b5c1_6 d2h_6 d3hhead_6 d3hatoms_6 d4h_6 b1c0_7 b1c1_7 b5c0_7 b5c1_7 d2h_7 d3hhead_7 d3hatoms_7 d4h_7 d5hhead_7 d5hatoms_7
  go_wp2_with fail
  refine (markQuery_any x0 _ _ d3fhead d3fatoms (1) _ (ints.below' d3hhead_8 ?_) (atoms.below' d3hatoms_8 ?_) d3F.1 (by omega) (by omega)).mono ?_
  · (repeat (first | exact Below.refl _ _ | refine ba ?_ | refine bdr ?_ | refine bs ?_ (by simp)))
  · (repeat (first | exact Below.refl _ _ | refine ba ?_ | refine bdr ?_ | refine bs ?_ (by simp)))
  rintro e w9 ⟨rfl, d3hheadm, d3hatomsm, hw9⟩
  have B9 : Below w.heap.size w w9 := bw B8 hw9 d3L
  have b1c0_9 : w9.cell? ⟨w.heap.size, 0, none⟩ = some ((.slice p0head x0.head.length q0head)) := (hw9.cellAt (lt_of_cell b1c0_8) Nb1_d3).trans b1c0_8
  have b1c1_9 : w9.cell? ⟨w.heap.size, 1, none⟩ = some ((.slice p0atoms x0.atoms.length q0atoms)) := (hw9.cellAt (lt_of_cell b1c1_8) Nb1_d3).trans b1c1_8
  have d2h_9 := ints.frame d2h_8 fun g hg => hw9.block g (d2h_8.lt g hg) (Xd2f_d3 g hg)
  have d4h_9 := ints.frame d4h_8 fun g hg => hw9.block g (d4h_8.lt g hg) ((fun hgx => (List.mem_append.1 hgx).elim (fun h => Xd3fhead_d4 g h (by simp [hg])) (fun h => Xd3fatoms_d4 g h (by simp [hg]))))
  clear b1c0_8 b1c1_8 b5c0_8 b5c1_8 d2h_8 d3hhead_8 d3hatoms_8 d4h_8
  go_wp2_with fail
  refine (eqIntS_any _ _ (setOf isVal (termsL x0.atoms)) (setOf isVal (termsL x0.atoms)) _ _ _ (ints.below' d4h_9 ?_) (ints.below' d2h_9 ?_)).mono ?_
  · (repeat (first | exact Below.refl _ _ | refine ba ?_ | refine bdr ?_ | refine bs ?_ (by simp)))
  · (repeat (first | exact Below.refl _ _ | refine ba ?_ | refine bdr ?_ | refine bs ?_ (by simp)))
  rintro e w10 ⟨rfl, hb10⟩
  have D10 : Below w9.heap.size w9 w10 := bt (by (repeat (first | exact Below.refl _ _ | refine ba ?_ | refine bdr ?_ | refine bs ?_ (by simp)))) hb10
  have B10 : Below w.heap.size w w10 := bt B9 D10
  have b1c0_10 : w10.cell? ⟨w.heap.size, 0, none⟩ = some ((.slice p0head x0.head.length q0head)) := cell_below b1c0_9 D10
  have b1c1_10 : w10.cell? ⟨w.heap.size, 1, none⟩ = some ((.slice p0atoms x0.atoms.length q0atoms)) := cell_below b1c1_9 D10
  have d2h_10 := d2h_9.below' D10
  have d4h_10 := d4h_9.below' D10
  clear b1c0_9 b1c1_9 d2h_9 d4h_9
  go_wp2_with fail
  refine (markIntS_any _ (setOf isVal (termsL x0.atoms)) d4f (1) _ (ints.below' d4h_10 ?_) ⟨by omega, by omega⟩ (by omega)).mono ?_
  · (repeat (first | exact Below.refl _ _ | refine ba ?_ | refine bdr ?_ | refine bs ?_ (by simp)))
  rintro e w11 ⟨rfl, d4hm, hw11⟩
  have B11 : Below w.heap.size w w11 := bw B10 hw11 d4L
  have b1c0_11 : w11.cell? ⟨w.heap.size, 0, none⟩ = some ((.slice p0head x0.head.length q0head)) := (hw11.cellAt (lt_of_cell b1c0_10) Nb1_d4).trans b1c0_10
  have b1c1_11 : w11.cell? ⟨w.heap.size, 1, none⟩ = some ((.slice p0atoms x0.atoms.length q0atoms)) := (hw11.cellAt (lt_of_cell b1c1_10) Nb1_d4).trans b1c1_10
  have d2h_11 := ints.frame d2h_10 fun g hg => hw11.block g (d2h_10.lt g hg) (Xd2f_d4 g hg)
  have d4h_11 := d4hm
  clear b1c0_10 b1c1_10 d2h_10 d4h_10
  go_wp2_with fail
  refine (heldIntS_any _ (setOf isVal (termsL x0.atoms)).length _ (1) _ (ints.below' d4h_11 ?_) ⟨by omega, by omega⟩ (by omega)).mono ?_
  · (repeat (first | exact Below.refl _ _ | refine ba ?_ | refine bdr ?_ | refine bs ?_ (by simp)))
  rintro e w12 ⟨rfl, hb12⟩
  have D12 : Below w11.heap.size w11 w12 := bt (by (repeat (first | exact Below.refl _ _ | refine ba ?_ | refine bdr ?_ | refine bs ?_ (by simp)))) hb12
  have B12 : Below w.heap.size w w12 := bt B11 D12
  have b1c0_12 : w12.cell? ⟨w.heap.size, 0, none⟩ = some ((.slice p0head x0.head.length q0head)) := cell_below b1c0_11 D12
  have b1c1_12 : w12.cell? ⟨w.heap.size, 1, none⟩ = some ((.slice p0atoms x0.atoms.length q0atoms)) := cell_below b1c1_11 D12
  have d2h_12 := d2h_11.below' D12
  have d4h_12 := d4h_11.below' D12
  clear b1c0_11 b1c1_11 d2h_11 d4h_11
  go_wp2_with fail
  refine (toQuery_any x0 _ _ _ (intsV.below' h0head ?_) nx0head (atomsV.below' h0atoms ?_) nx0atoms nx0atomsi).mono ?_
  · (repeat (first | exact B12 | refine ba ?_ | refine bdr ?_ | refine bs ?_ (by simp)))
  · (repeat (first | exact B12 | refine ba ?_ | refine bdr ?_ | refine bs ?_ (by simp)))
  rintro e w13 ⟨d6vhead, d6vatoms, d6fhead, d6fatoms, rfl, d6hhead_13, d6hatoms_13, d6fr, hb13⟩
  obtain ⟨d6ahead, d6chead, rfl⟩ := slR.form d6hhead_13
  obtain ⟨d6aatoms, d6catoms, rfl⟩ := slR.form d6hatoms_13
  have D13 : Below w12.heap.size w12 w13 := bt (by (repeat (first | exact Below.refl _ _ | refine ba ?_ | refine bdr ?_ | refine bs ?_ (by simp)))) hb13
  have B13 : Below w.heap.size w w13 := bt B12 D13
  have d2h_13 := d2h_12.below' D13
  have d4h_13 := d4h_12.below' D13
  clear b1c0_12 b1c1_12 d2h_12 d4h_12
  go_wp2_with fail
  refine (implConstantsOf_any x0 _ _ _ _ _ (ints.below' d6hhead_13 ?_) (atoms.below' d6hatoms_13 ?_) nT).mono ?_
  · (repeat (first | exact Below.refl _ _ | refine ba ?_ | refine bdr ?_ | refine bs ?_ (by simp)))
  · (repeat (first | exact Below.refl _ _ | refine ba ?_ | refine bdr ?_ | refine bs ?_ (by simp)))
  rintro e w14 ⟨d7v, d7f, rfl, d7h_14, d7fr, hb14⟩
  obtain ⟨d7a, d7c, rfl⟩ := slR.form d7h_14
  have D14 : Below w13.heap.size w13 w14 := bt (by (repeat (first | exact Below.refl _ _ | refine ba ?_ | refine bdr ?_ | refine bs ?_ (by simp)))) hb14
  have B14 : Below w.heap.size w w14 := bt B13 D14
  have d2h_14 := d2h_13.below' D14
  have d4h_14 := d4h_13.below' D14
  clear d2h_13 d4h_13 d6hhead_13 d6hatoms_13
  go_wp2_with fail
  refine (eqIntS_any _ _ (setOf isVal (termsL x0.atoms)) (setOf isVal (termsL x0.atoms)) _ _ _ (ints.below' d7h_14 ?_) (ints.below' d2h_14 ?_)).mono ?_
  · (repeat (first | exact Below.refl _ _ | refine ba ?_ | refine bdr ?_ | refine bs ?_ (by simp)))
  · (repeat (first | exact Below.refl _ _ | refine ba ?_ | refine bdr ?_ | refine bs ?_ (by simp)))
  rintro e w15 ⟨rfl, hb15⟩
  have D15 : Below w14.heap.size w14 w15 := bt (by (repeat (first | exact Below.refl _ _ | refine ba ?_ | refine bdr ?_ | refine bs ?_ (by simp)))) hb15
  have B15 : Below w.heap.size w w15 := bt B14 D15
  have d4h_15 := d4h_14.below' D15
  clear d2h_14 d4h_14 d7h_14
  go_wp2_with fail
  refine (heldIntS_any _ (setOf isVal (termsL x0.atoms)).length _ (1) _ (ints.below' d4h_15 ?_) ⟨by omega, by omega⟩ (by omega)).mono ?_
  · (repeat (first | exact Below.refl _ _ | refine ba ?_ | refine bdr ?_ | refine bs ?_ (by simp)))
  rintro e w16 ⟨rfl, hb16⟩
  have D16 : Below w15.heap.size w15 w16 := bt (by (repeat (first | exact Below.refl _ _ | refine ba ?_ | refine bdr ?_ | refine bs ?_ (by simp)))) hb16
  have B16 : Below w.heap.size w w16 := bt B15 D16
  clear d4h_15
  go_wp2
  go_ret
  exact ⟨rfl, B16⟩
end Go.Proofs.Ytinmiekbidfblaa
