/- The walk of the law FnExactCheapestOrder: it returns true, whatever the input. -/
import Derived.Test.YtpdmdfkcaabnaaaGreatMZ
import Derived.Test.YtpdmdfkcaabnaaaGreatHQuery
import Derived.Test.YtpdmdfkcaabnaaaGreatHMeth
import Derived.Test.YtpdmdfkcaabnaaaGreatHStep
import Derived.Test.YtpdmdfkcaabnaaaGreatFacts0
namespace Go.Proofs.YtpdmdfkcaabnaaaGreat
open Go.RowKit
set_option linter.unusedVariables false
set_option linter.unusedSimpArgs false
set_option maxRecDepth 100000 in
set_option maxHeartbeats 8000000 in
theorem fnExactCheapestOrder_walk (v0 : Value) (l0 : List Int) (v1 : Value) (l1 : List MethD) (cs2 : List Value) (x2 : QueryD) (w : World) (g0 : intsV w v0 l0) (g1 : methsV w v1 l1) (g2 : queryW w cs2 x2)  :
    Calls Tryz.prog 3 #[v0, v1, .agg cs2.toArray] w fun e w' => e = .returned (.bool true) ∧ Below w.heap.size w w' := by
  obtain ⟨p0, q0, rfl⟩ := slW.form g0
  obtain ⟨p1, q1, rfl⟩ := slW.form g1
  obtain ⟨v2head, v2atoms, rfl, h2head, h2atoms⟩ := g2
  obtain ⟨p2head, q2head, rfl⟩ := slW.form h2head
  obtain ⟨p2atoms, q2atoms, rfl⟩ := slW.form h2atoms
  have b5c0_0 : (w.alloc (.cells #[(.slice p2head x2.head.length q2head), (.slice p2atoms x2.atoms.length q2atoms)] 26)).cell? ⟨w.heap.size, 0, none⟩ = some ((.slice p2head x2.head.length q2head)) := cell_new w _ _ 0 _ rfl
  have b5c1_0 : (w.alloc (.cells #[(.slice p2head x2.head.length q2head), (.slice p2atoms x2.atoms.length q2atoms)] 26)).cell? ⟨w.heap.size, 1, none⟩ = some ((.slice p2atoms x2.atoms.length q2atoms)) := cell_new w _ _ 1 _ rfl
  by_cases n0 : l0.length ≤ 1048576
  case neg =>
    go_enter Tryz.func3, Tryz.ntmps3
    go_wp2
    go_ret
    exact ⟨rfl, by (repeat (first | exact Below.refl _ _ | refine ba ?_ | refine bdr ?_ | refine bs ?_ (by simp)))⟩
  have rr : decide ((cheapL l0 l1 x2).1 = (cheapL l0 l1 x2).1) = true := by simp
  have rr : ((cheapL l0 l1 x2).2.1 != (cheapL l0 l1 x2).2.1) = false := by simp
  have rr : ((cheapL l0 l1 x2).2.2 != (cheapL l0 l1 x2).2.2) = false := by simp
  have rd0 : decide (l0 = l0) = true := by simp
  have rd1 : decide (l1 = l1) = true := by simp
  have rd2 : decide (x2 = x2) = true := by simp
  go_enter Tryz.func3, Tryz.ntmps3
  go_wp2_with fail
  refine (szMethodS_any _ l1 (1048576) _ (methsV.below' g1 ?_) ⟨by omega, by omega⟩).mono ?_
  · (repeat (first | exact Below.refl _ _ | refine ba ?_ | refine bdr ?_ | refine bs ?_ (by simp)))
  rintro e w1 ⟨rfl, hb1⟩
  have D1 : Below w.heap.size w w1 := bt (by (repeat (first | exact Below.refl _ _ | refine ba ?_ | refine bdr ?_ | refine bs ?_ (by simp)))) hb1
  have B1 : Below w.heap.size w w1 := D1
  have b5c0_1 : w1.cell? ⟨w.heap.size, 0, none⟩ = some ((.slice p2head x2.head.length q2head)) := cell_below (b5c0_0) hb1
  have b5c1_1 : w1.cell? ⟨w.heap.size, 1, none⟩ = some ((.slice p2atoms x2.atoms.length q2atoms)) := cell_below (b5c1_0) hb1
  clear b5c0_0 b5c1_0
  rcases left_cases (bulkMethodS l1) (1048576) (by omega) with ⟨t0, t1⟩ | ⟨t0, t1⟩
  case inl =>
    have T1 := Lib.hid t1; clear t1
    go_wp2
    go_ret
    exact ⟨rfl, B1⟩
  have T1 := Lib.hid t1; clear t1
  obtain ⟨ql1, el11, el12⟩ := left_bd t0 (by omega) (by omega)
  clear t0
  have nl1 : l1.length ≤ 1048576 := by have h9 := ql1; unfold bulkMethodS at h9; omega
  have nl1i : ∀ y ∈ l1, y.inputs.length ≤ 1048576 := fun y hy => by have h9 := ql1; unfold bulkMethodS at h9; have h8 := sum_ge_mem (f := fun x => bulkMethod x) hy; unfold bulkMethod at h8 h9; omega
  have nC1 : (l1.map cntMethod).sum ≤ 5242880 := cntMethodS_bulk ql1
  go_wp2_with fail
  refine (szQuery_any x2 _ _ (left (bulkMethodS l1) (1048576)) _ (intsV.below' h2head ?_) (atomsV.below' h2atoms ?_) ⟨by omega, by omega⟩).mono ?_
  · (repeat (first | exact B1 | refine ba ?_ | refine bdr ?_ | refine bs ?_ (by simp)))
  · (repeat (first | exact B1 | refine ba ?_ | refine bdr ?_ | refine bs ?_ (by simp)))
  rintro e w2 ⟨rfl, hb2⟩
  have D2 : Below w1.heap.size w1 w2 := bt (by (repeat (first | exact Below.refl _ _ | refine ba ?_ | refine bdr ?_ | refine bs ?_ (by simp)))) hb2
  have B2 : Below w.heap.size w w2 := bt B1 D2
  have b5c0_2 : w2.cell? ⟨w.heap.size, 0, none⟩ = some ((.slice p2head x2.head.length q2head)) := cell_below b5c0_1 D2
  have b5c1_2 : w2.cell? ⟨w.heap.size, 1, none⟩ = some ((.slice p2atoms x2.atoms.length q2atoms)) := cell_below b5c1_1 D2
  clear b5c0_1 b5c1_1
  rcases left_cases (bulkQuery x2) (left (bulkMethodS l1) (1048576)) (by omega) with ⟨t0, t1⟩ | ⟨t0, t1⟩
  case inl =>
    have T1 := Lib.hid t1; clear t1
    go_wp2
    go_ret
    exact ⟨rfl, B2⟩
  have T2 := Lib.hid t1; clear t1
  obtain ⟨qx2, ex21, ex22⟩ := left_bd t0 (by omega) (by omega)
  clear t0
  have nx2head : x2.head.length ≤ 1048576 := by have h9 := qx2; unfold bulkQuery at h9; omega
  have nx2atoms : x2.atoms.length ≤ 1048576 := by have h9 := qx2; unfold bulkQuery bulkAtomS at h9; omega
  have nx2atomsi : ∀ y ∈ x2.atoms, y.terms.length ≤ 1048576 := fun y hy => by have h9 := qx2; unfold bulkQuery bulkAtomS at h9; have h8 := sum_ge_mem (f := fun x => bulkAtom x) hy; unfold bulkAtom at h8 h9; omega
  have nT : (termsL x2.atoms).length ≤ 1048576 := termsL_bulk qx2
  have nC : (x2.atoms.map cntAtom).sum ≤ 2097152 := cnt_bulk qx2
  have nR : ((cheapL l0 l1 x2).1.map cntStep).sum ≤ 1048576 := cheapL_cnt _ _ _
  have nR2 : (cheapL l0 l1 x2).1.length ≤ 1048576 := Nat.le_trans (cheapL_length _ _ _) (by decide)
  go_wp2_with fail
  go_region_held3 (fun w' => w'.cell? ⟨w.heap.size, 0, none⟩ = some ((.slice p2head x2.head.length q2head)) ∧ w'.cell? ⟨w.heap.size, 1, none⟩ = some ((.slice p2atoms x2.atoms.length q2atoms))) (first | exact ⟨b5c0_2, b5c1_2⟩ | exact ⟨b5c0_3, b5c1_3⟩ | exact ⟨b5c0_4, b5c1_4⟩ | exact ⟨b5c0_5, b5c1_5⟩ | exact ⟨b5c0_6, b5c1_6⟩)
    (first
      | (go_at_call 7
         with_reducible refine (toIntS_any _ l0 _ (intsV.below' g0 ?_) n0).mono ?_
         · (repeat (first | exact B2 | refine ba ?_ | refine bdr ?_ | refine bs ?_ (by simp)))
         rintro e w3 ⟨d1v, d1f, rfl, d1h_3, d1fr, hb3⟩
         obtain ⟨d1a, d1c, rfl⟩ := slR.form d1h_3
         have D3 : Below w2.heap.size w2 w3 := bt (by (repeat (first | exact Below.refl _ _ | refine ba ?_ | refine bdr ?_ | refine bs ?_ (by simp)))) hb3
         have B3 : Below w.heap.size w w3 := bt B2 D3
         have b5c0_3 : w3.cell? ⟨w.heap.size, 0, none⟩ = some ((.slice p2head x2.head.length q2head)) := cell_below b5c0_2 D3
         have b5c1_3 : w3.cell? ⟨w.heap.size, 1, none⟩ = some ((.slice p2atoms x2.atoms.length q2atoms)) := cell_below b5c1_2 D3)
      | (go_at_call 8
         with_reducible refine (toMethodS_any _ l1 _ (methsV.below' g1 ?_) nl1 nl1i).mono ?_
         · (repeat (first | exact B3 | refine ba ?_ | refine bdr ?_ | refine bs ?_ (by simp)))
         rintro e w4 ⟨d2v, d2f, rfl, d2h_4, d2fr, hb4⟩
         obtain ⟨d2a, d2c, rfl⟩ := slR.form d2h_4
         have D4 : Below w3.heap.size w3 w4 := bt (by (repeat (first | exact Below.refl _ _ | refine ba ?_ | refine bdr ?_ | refine bs ?_ (by simp)))) hb4
         have B4 : Below w.heap.size w w4 := bt B3 D4
         have b5c0_4 : w4.cell? ⟨w.heap.size, 0, none⟩ = some ((.slice p2head x2.head.length q2head)) := cell_below b5c0_3 D4
         have b5c1_4 : w4.cell? ⟨w.heap.size, 1, none⟩ = some ((.slice p2atoms x2.atoms.length q2atoms)) := cell_below b5c1_3 D4
         have d1h_4 := d1h_3.below' D4)
      | (go_at_call 9
         with_reducible refine (toQuery_any x2 _ _ _ (intsV.below' h2head ?_) nx2head (atomsV.below' h2atoms ?_) nx2atoms nx2atomsi).mono ?_
         · (repeat (first | exact B4 | refine ba ?_ | refine bdr ?_ | refine bs ?_ (by simp)))
         · (repeat (first | exact B4 | refine ba ?_ | refine bdr ?_ | refine bs ?_ (by simp)))
         rintro e w5 ⟨d3vhead, d3vatoms, d3fhead, d3fatoms, rfl, d3hhead_5, d3hatoms_5, d3fr, hb5⟩
         obtain ⟨d3ahead, d3chead, rfl⟩ := slR.form d3hhead_5
         obtain ⟨d3aatoms, d3catoms, rfl⟩ := slR.form d3hatoms_5
         have D5 : Below w4.heap.size w4 w5 := bt (by (repeat (first | exact Below.refl _ _ | refine ba ?_ | refine bdr ?_ | refine bs ?_ (by simp)))) hb5
         have B5 : Below w.heap.size w w5 := bt B4 D5
         have b5c0_5 : w5.cell? ⟨w.heap.size, 0, none⟩ = some ((.slice p2head x2.head.length q2head)) := cell_below b5c0_4 D5
         have b5c1_5 : w5.cell? ⟨w.heap.size, 1, none⟩ = some ((.slice p2atoms x2.atoms.length q2atoms)) := cell_below b5c1_4 D5
         have d1h_5 := d1h_4.below' D5
         have d2h_5 := d2h_4.below' D5)
      | (go_at_call 6
         with_reducible refine (specCheapestOrder_any _ l0 _ _ l1 _ x2 _ _ _ _ _ (ints.below' d1h_5 ?_) (meths.below' d2h_5 ?_) (ints.below' d3hhead_5 ?_) (atoms.below' d3hatoms_5 ?_) nT).mono ?_
         · (repeat (first | exact Below.refl _ _ | refine ba ?_ | refine bdr ?_ | refine bs ?_ (by simp)))
         · (repeat (first | exact Below.refl _ _ | refine ba ?_ | refine bdr ?_ | refine bs ?_ (by simp)))
         · (repeat (first | exact Below.refl _ _ | refine ba ?_ | refine bdr ?_ | refine bs ?_ (by simp)))
         · (repeat (first | exact Below.refl _ _ | refine ba ?_ | refine bdr ?_ | refine bs ?_ (by simp)))
         rintro e w6 ⟨d4v, d4f, rfl, d4h_6, hb6⟩
         obtain ⟨d4a, d4c, rfl⟩ := slR.form d4h_6
         have D6 : Below w5.heap.size w5 w6 := bt (by (repeat (first | exact Below.refl _ _ | refine ba ?_ | refine bdr ?_ | refine bs ?_ (by simp)))) hb6
         have B6 : Below w.heap.size w w6 := bt B5 D6
         have b5c0_6 : w6.cell? ⟨w.heap.size, 0, none⟩ = some ((.slice p2head x2.head.length q2head)) := cell_below b5c0_5 D6
         have b5c1_6 : w6.cell? ⟨w.heap.size, 1, none⟩ = some ((.slice p2atoms x2.atoms.length q2atoms)) := cell_below b5c1_5 D6))
  clear b5c0_2 b5c1_2 b5c0_3 b5c1_3 d1h_3 b5c0_4 b5c1_4 d1h_4 d2h_4 b5c0_5 b5c1_5 d1h_5 d2h_5 d3hhead_5 d3hatoms_5
  go_wp2_with fail
  refine (toIntS_any _ l0 _ (intsV.below' g0 ?_) n0).mono ?_
  · (repeat (first | exact B6 | refine ba ?_ | refine bdr ?_ | refine bs ?_ (by simp)))
  rintro e w7 ⟨d5v, d5f, rfl, d5h_7, d5fr, hb7⟩
  obtain ⟨d5a, d5c, rfl⟩ := slR.form d5h_7
  have d5F : Fresh w6.heap.size (d5f) := d5fr.mono (Below.size (B := w6.heap.size) (by (repeat (first | exact Below.refl _ _ | refine ba ?_ | refine bdr ?_ | refine bs ?_ (by simp)))))
  have Xd4f_d5 : ∀ g ∈ d4f, g ∉ d5f := fun g hg => d5F.notin (d4h_6.lt g hg)
  have d5L : ∀ g ∈ d5f, w.heap.size ≤ g := fun g hg => Nat.le_trans (Below.size B6) (d5F.2 g hg)
  have Nb5_d5 : w.heap.size ∉ d5f := d5F.notin (lt_of_cell b5c0_6)
  have D7 : Below w6.heap.size w6 w7 := bt (by (repeat (first | exact Below.refl _ _ | refine ba ?_ | refine bdr ?_ | refine bs ?_ (by simp)))) hb7
  have B7 : Below w.heap.size w w7 := bt B6 D7
  have b5c0_7 : w7.cell? ⟨w.heap.size, 0, none⟩ = some ((.slice p2head x2.head.length q2head)) := cell_below b5c0_6 D7
  have b5c1_7 : w7.cell? ⟨w.heap.size, 1, none⟩ = some ((.slice p2atoms x2.atoms.length q2atoms)) := cell_below b5c1_6 D7
  have d4h_7 := d4h_6.below' D7
  clear b5c0_6 b5c1_6 d4h_6
  go_wp2_with fail
  refine (toMethodS_any _ l1 _ (methsV.below' g1 ?_) nl1 nl1i).mono ?_
  · (repeat (first | exact B7 | refine ba ?_ | refine bdr ?_ | refine bs ?_ (by simp)))
  rintro e w8 ⟨d6v, d6f, rfl, d6h_8, d6fr, hb8⟩
  obtain ⟨d6a, d6c, rfl⟩ := slR.form d6h_8
  have d6F : Fresh w7.heap.size (d6f) := d6fr.mono (Below.size (B := w7.heap.size) (by (repeat (first | exact Below.refl _ _ | refine ba ?_ | refine bdr ?_ | refine bs ?_ (by simp)))))
  have Xd4f_d6 : ∀ g ∈ d4f, g ∉ d6f := fun g hg => d6F.notin (d4h_7.lt g hg)
  have Xd5f_d6 : ∀ g ∈ d5f, g ∉ d6f := fun g hg => d6F.notin (d5h_7.lt g hg)
  have d6L : ∀ g ∈ d6f, w.heap.size ≤ g := fun g hg => Nat.le_trans (Below.size B7) (d6F.2 g hg)
  have Nb5_d6 : w.heap.size ∉ d6f := d6F.notin (lt_of_cell b5c0_7)
  have D8 : Below w7.heap.size w7 w8 := bt (by (repeat (first | exact Below.refl _ _ | refine ba ?_ | refine bdr ?_ | refine bs ?_ (by simp)))) hb8
  have B8 : Below w.heap.size w w8 := bt B7 D8
  have b5c0_8 : w8.cell? ⟨w.heap.size, 0, none⟩ = some ((.slice p2head x2.head.length q2head)) := cell_below b5c0_7 D8
  have b5c1_8 : w8.cell? ⟨w.heap.size, 1, none⟩ = some ((.slice p2atoms x2.atoms.length q2atoms)) := cell_below b5c1_7 D8
  have d4h_8 := d4h_7.below' D8
  have d5h_8 := d5h_7.below' D8
  clear b5c0_7 b5c1_7 d4h_7 d5h_7
  go_wp2_with fail
  refine (toQuery_any x2 _ _ _ (intsV.below' h2head ?_) nx2head (atomsV.below' h2atoms ?_) nx2atoms nx2atomsi).mono ?_
  · (repeat (first | exact B8 | refine ba ?_ | refine bdr ?_ | refine bs ?_ (by simp)))
  · (repeat (first | exact B8 | refine ba ?_ | refine bdr ?_ | refine bs ?_ (by simp)))
  rintro e w9 ⟨d7vhead, d7vatoms, d7fhead, d7fatoms, rfl, d7hhead_9, d7hatoms_9, d7fr, hb9⟩
  obtain ⟨d7ahead, d7chead, rfl⟩ := slR.form d7hhead_9
  obtain ⟨d7aatoms, d7catoms, rfl⟩ := slR.form d7hatoms_9
  have d7F : Fresh w8.heap.size (d7fhead ++ d7fatoms) := d7fr.mono (Below.size (B := w8.heap.size) (by (repeat (first | exact Below.refl _ _ | refine ba ?_ | refine bdr ?_ | refine bs ?_ (by simp)))))
  have Xd4f_d7 : ∀ g ∈ d4f, g ∉ d7fhead ++ d7fatoms := fun g hg => d7F.notin (d4h_8.lt g hg)
  have Xd5f_d7 : ∀ g ∈ d5f, g ∉ d7fhead ++ d7fatoms := fun g hg => d7F.notin (d5h_8.lt g hg)
  have Xd6f_d7 : ∀ g ∈ d6f, g ∉ d7fhead ++ d7fatoms := fun g hg => d7F.notin (d6h_8.lt g hg)
  have d7L : ∀ g ∈ d7fhead ++ d7fatoms, w.heap.size ≤ g := fun g hg => Nat.le_trans (Below.size B8) (d7F.2 g hg)
  have Nb5_d7 : w.heap.size ∉ d7fhead ++ d7fatoms := d7F.notin (lt_of_cell b5c0_8)
  have D9 : Below w8.heap.size w8 w9 := bt (by (repeat (first | exact Below.refl _ _ | refine ba ?_ | refine bdr ?_ | refine bs ?_ (by simp)))) hb9
  have B9 : Below w.heap.size w w9 := bt B8 D9
  have b5c0_9 : w9.cell? ⟨w.heap.size, 0, none⟩ = some ((.slice p2head x2.head.length q2head)) := cell_below b5c0_8 D9
  have b5c1_9 : w9.cell? ⟨w.heap.size, 1, none⟩ = some ((.slice p2atoms x2.atoms.length q2atoms)) := cell_below b5c1_8 D9
  have d4h_9 := d4h_8.below' D9
  have d5h_9 := d5h_8.below' D9
  have d6h_9 := d6h_8.below' D9
  clear b5c0_8 b5c1_8 d4h_8 d5h_8 d6h_8
  have b5c0_9n := fun o => cell_al b5c0_9 o
  have b5c1_9n := fun o => cell_al b5c1_9 o
  have Nb13_d5 : w9.heap.size ∉ d5f := fun h => Nat.lt_irrefl _ (d5h_9.lt _ h)
  have Nb13_d5 := Nb13_d5
  have Nb13_d6 : w9.heap.size ∉ d6f := fun h => Nat.lt_irrefl _ (d6h_9.lt _ h)
  have Nb13_d6 := Nb13_d6
  have Nb13_d7head : w9.heap.size ∉ d7fhead := fun h => Nat.lt_irrefl _ (d7hhead_9.lt _ h)
  have Nb13_d7atoms : w9.heap.size ∉ d7fatoms := fun h => Nat.lt_irrefl _ (d7hatoms_9.lt _ h)
  have Nb13_d7 : w9.heap.size ∉ d7fhead ++ d7fatoms := fun h => (List.mem_append.1 h).elim Nb13_d7head Nb13_d7atoms
  go_wp2_with fail
  refine (implCheapestOrder_any _ l0 _ _ l1 _ x2 _ _ _ _ _ (ints.below' d5h_9 ?_) (meths.below' d6h_9 ?_) (ints.below' d7hhead_9 ?_) (atoms.below' d7hatoms_9 ?_) nT).mono ?_
  · (repeat (first | exact Below.refl _ _ | refine ba ?_ | refine bdr ?_ | refine bs ?_ (by simp)))
  · (repeat (first | exact Below.refl _ _ | refine ba ?_ | refine bdr ?_ | refine bs ?_ (by simp)))
  · (repeat (first | exact Below.refl _ _ | refine ba ?_ | refine bdr ?_ | refine bs ?_ (by simp)))
  · (repeat (first | exact Below.refl _ _ | refine ba ?_ | refine bdr ?_ | refine bs ?_ (by simp)))
  rintro e w10 ⟨d8v, d8f, rfl, d8h_10, d8fr, hb10⟩
  obtain ⟨d8a, d8c, rfl⟩ := slR.form d8h_10
  have d8F : Fresh w9.heap.size (d8f) := d8fr.mono (Below.size (B := w9.heap.size) (by (repeat (first | exact Below.refl _ _ | refine ba ?_ | refine bdr ?_ | refine bs ?_ (by simp)))))
  have Xd4f_d8 : ∀ g ∈ d4f, g ∉ d8f := fun g hg => d8F.notin (d4h_9.lt g hg)
  have Xd5f_d8 : ∀ g ∈ d5f, g ∉ d8f := fun g hg => d8F.notin (d5h_9.lt g hg)
  have Xd6f_d8 : ∀ g ∈ d6f, g ∉ d8f := fun g hg => d8F.notin (d6h_9.lt g hg)
  have Xd7fhead_d8 : ∀ g ∈ d7fhead, g ∉ d8f := fun g hg => d8F.notin (d7hhead_9.lt g hg)
  have Xd7fatoms_d8 : ∀ g ∈ d7fatoms, g ∉ d8f := fun g hg => d8F.notin (d7hatoms_9.lt g hg)
  have d8L : ∀ g ∈ d8f, w.heap.size ≤ g := fun g hg => Nat.le_trans (Below.size B9) (d8F.2 g hg)
  have Nb5_d8 : w.heap.size ∉ d8f := d8F.notin (lt_of_cell b5c0_9)
  have Nb13_d8 : w9.heap.size ∉ d8f := d8fr.notin (by simp)
  have D10 : Below w9.heap.size w9 w10 := bt (by (repeat (first | exact Below.refl _ _ | refine ba ?_ | refine bdr ?_ | refine bs ?_ (by simp)))) hb10
  have B10 : Below w.heap.size w w10 := bt B9 D10
  have b5c0_10 : w10.cell? ⟨w.heap.size, 0, none⟩ = some ((.slice p2head x2.head.length q2head)) := cell_below b5c0_9 D10
  have b5c1_10 : w10.cell? ⟨w.heap.size, 1, none⟩ = some ((.slice p2atoms x2.atoms.length q2atoms)) := cell_below b5c1_9 D10
  have b13c0_10 : w10.cell? ⟨w9.heap.size, 0, none⟩ = some ((.slice d7ahead x2.head.length d7chead)) := cell_below (cell_new _ _ _ 0 _ rfl) hb10
  have b13c1_10 : w10.cell? ⟨w9.heap.size, 1, none⟩ = some ((.slice d7aatoms x2.atoms.length d7catoms)) := cell_below (cell_new _ _ _ 1 _ rfl) hb10
  have d4h_10 := d4h_9.below' D10
  have d5h_10 := d5h_9.below' D10
  have d6h_10 := d6h_9.below' D10
  have d7hhead_10 := d7hhead_9.below' D10
  have d7hatoms_10 := d7hatoms_9.below' D10
  clear b5c0_9 b5c1_9 d4h_9 d5h_9 d6h_9 d7hhead_9 d7hatoms_9 b5c0_9n b5c1_9n
  go_wp2_with fail
  refine (eqStepS_any _ _ ((cheapL l0 l1 x2).1) ((cheapL l0 l1 x2).1) _ _ _ (steps.below' d8h_10 ?_) (steps.below' d4h_10 ?_)).mono ?_
  · (repeat (first | exact Below.refl _ _ | refine ba ?_ | refine bdr ?_ | refine bs ?_ (by simp)))
  · (repeat (first | exact Below.refl _ _ | refine ba ?_ | refine bdr ?_ | refine bs ?_ (by simp)))
  rintro e w11 ⟨rfl, hb11⟩
  have D11 : Below w10.heap.size w10 w11 := bt (by (repeat (first | exact Below.refl _ _ | refine ba ?_ | refine bdr ?_ | refine bs ?_ (by simp)))) hb11
  have B11 : Below w.heap.size w w11 := bt B10 D11
  have b5c0_11 : w11.cell? ⟨w.heap.size, 0, none⟩ = some ((.slice p2head x2.head.length q2head)) := cell_below b5c0_10 D11
  have b5c1_11 : w11.cell? ⟨w.heap.size, 1, none⟩ = some ((.slice p2atoms x2.atoms.length q2atoms)) := cell_below b5c1_10 D11
  have b13c0_11 : w11.cell? ⟨w9.heap.size, 0, none⟩ = some ((.slice d7ahead x2.head.length d7chead)) := cell_below b13c0_10 D11
  have b13c1_11 : w11.cell? ⟨w9.heap.size, 1, none⟩ = some ((.slice d7aatoms x2.atoms.length d7catoms)) := cell_below b13c1_10 D11
  have d4h_11 := d4h_10.below' D11
  have d5h_11 := d5h_10.below' D11
  have d6h_11 := d6h_10.below' D11
  have d7hhead_11 := d7hhead_10.below' D11
  have d7hatoms_11 := d7hatoms_10.below' D11
  have d8h_11 := d8h_10.below' D11
  clear b5c0_10 b5c1_10 b13c0_10 b13c1_10 d4h_10 d5h_10 d6h_10 d7hhead_10 d7hatoms_10 d8h_10
  go_wp2_with fail
  refine (toIntS_any _ l0 _ (intsV.below' g0 ?_) n0).mono ?_
  · (repeat (first | exact B11 | refine ba ?_ | refine bdr ?_ | refine bs ?_ (by simp)))
  rintro e w12 ⟨d9v, d9f, rfl, d9h_12, d9fr, hb12⟩
  obtain ⟨d9a, d9c, rfl⟩ := slR.form d9h_12
  have d9F : Fresh w11.heap.size (d9f) := d9fr.mono (Below.size (B := w11.heap.size) (by (repeat (first | exact Below.refl _ _ | refine ba ?_ | refine bdr ?_ | refine bs ?_ (by simp)))))
  have Xd5f_d9 : ∀ g ∈ d5f, g ∉ d9f := fun g hg => d9F.notin (d5h_11.lt g hg)
  have Xd6f_d9 : ∀ g ∈ d6f, g ∉ d9f := fun g hg => d9F.notin (d6h_11.lt g hg)
  have Xd7fhead_d9 : ∀ g ∈ d7fhead, g ∉ d9f := fun g hg => d9F.notin (d7hhead_11.lt g hg)
  have Xd7fatoms_d9 : ∀ g ∈ d7fatoms, g ∉ d9f := fun g hg => d9F.notin (d7hatoms_11.lt g hg)
  have Xd8f_d9 : ∀ g ∈ d8f, g ∉ d9f := fun g hg => d9F.notin (d8h_11.lt g hg)
  have D12 : Below w11.heap.size w11 w12 := bt (by (repeat (first | exact Below.refl _ _ | refine ba ?_ | refine bdr ?_ | refine bs ?_ (by simp)))) hb12
  have B12 : Below w.heap.size w w12 := bt B11 D12
  have b5c0_12 : w12.cell? ⟨w.heap.size, 0, none⟩ = some ((.slice p2head x2.head.length q2head)) := cell_below b5c0_11 D12
  have b5c1_12 : w12.cell? ⟨w.heap.size, 1, none⟩ = some ((.slice p2atoms x2.atoms.length q2atoms)) := cell_below b5c1_11 D12
  have b13c0_12 : w12.cell? ⟨w9.heap.size, 0, none⟩ = some ((.slice d7ahead x2.head.length d7chead)) := cell_below b13c0_11 D12
  have b13c1_12 : w12.cell? ⟨w9.heap.size, 1, none⟩ = some ((.slice d7aatoms x2.atoms.length d7catoms)) := cell_below b13c1_11 D12
  have d4h_12 := d4h_11.below' D12
  have d5h_12 := d5h_11.below' D12
  have d6h_12 := d6h_11.below' D12
  have d7hhead_12 := d7hhead_11.below' D12
  have d7hatoms_12 := d7hatoms_11.below' D12
  have d8h_12 := d8h_11.below' D12
  clear b5c0_11 b5c1_11 b13c0_11 b13c1_11 d4h_11 d5h_11 d6h_11 d7hhead_11 d7hatoms_11 d8h_11
  go_wp2_with fail
  refine (eqIntS_any _ _ l0 l0 _ _ _ (ints.below' d5h_12 ?_) (ints.below' d9h_12 ?_)).mono ?_
  · (repeat (first | exact Below.refl _ _ | refine ba ?_ | refine bdr ?_ | refine bs ?_ (by simp)))
  · (repeat (first | exact Below.refl _ _ | refine ba ?_ | refine bdr ?_ | refine bs ?_ (by simp)))
  rintro e w13 ⟨rfl, hb13⟩
  have D13 : Below w12.heap.size w12 w13 := bt (by (repeat (first | exact Below.refl _ _ | refine ba ?_ | refine bdr ?_ | refine bs ?_ (by simp)))) hb13
  have B13 : Below w.heap.size w w13 := bt B12 D13
  have b5c0_13 : w13.cell? ⟨w.heap.size, 0, none⟩ = some ((.slice p2head x2.head.length q2head)) := cell_below b5c0_12 D13
  have b5c1_13 : w13.cell? ⟨w.heap.size, 1, none⟩ = some ((.slice p2atoms x2.atoms.length q2atoms)) := cell_below b5c1_12 D13
  have b13c0_13 : w13.cell? ⟨w9.heap.size, 0, none⟩ = some ((.slice d7ahead x2.head.length d7chead)) := cell_below b13c0_12 D13
  have b13c1_13 : w13.cell? ⟨w9.heap.size, 1, none⟩ = some ((.slice d7aatoms x2.atoms.length d7catoms)) := cell_below b13c1_12 D13
  have d4h_13 := d4h_12.below' D13
  have d5h_13 := d5h_12.below' D13
  have d6h_13 := d6h_12.below' D13
  have d7hhead_13 := d7hhead_12.below' D13
  have d7hatoms_13 := d7hatoms_12.below' D13
  have d8h_13 := d8h_12.below' D13
  clear b5c0_12 b5c1_12 b13c0_12 b13c1_12 d4h_12 d5h_12 d6h_12 d7hhead_12 d7hatoms_12 d8h_12 d9h_12
  go_wp2_with fail
  refine (toMethodS_any _ l1 _ (methsV.below' g1 ?_) nl1 nl1i).mono ?_
  · (repeat (first | exact B13 | refine ba ?_ | refine bdr ?_ | refine bs ?_ (by simp)))
  rintro e w14 ⟨d10v, d10f, rfl, d10h_14, d10fr, hb14⟩
  obtain ⟨d10a, d10c, rfl⟩ := slR.form d10h_14
  have d10F : Fresh w13.heap.size (d10f) := d10fr.mono (Below.size (B := w13.heap.size) (by (repeat (first | exact Below.refl _ _ | refine ba ?_ | refine bdr ?_ | refine bs ?_ (by simp)))))
  have Xd5f_d10 : ∀ g ∈ d5f, g ∉ d10f := fun g hg => d10F.notin (d5h_13.lt g hg)
  have Xd6f_d10 : ∀ g ∈ d6f, g ∉ d10f := fun g hg => d10F.notin (d6h_13.lt g hg)
  have Xd7fhead_d10 : ∀ g ∈ d7fhead, g ∉ d10f := fun g hg => d10F.notin (d7hhead_13.lt g hg)
  have Xd7fatoms_d10 : ∀ g ∈ d7fatoms, g ∉ d10f := fun g hg => d10F.notin (d7hatoms_13.lt g hg)
  have Xd8f_d10 : ∀ g ∈ d8f, g ∉ d10f := fun g hg => d10F.notin (d8h_13.lt g hg)
  have D14 : Below w13.heap.size w13 w14 := bt (by (repeat (first | exact Below.refl _ _ | refine ba ?_ | refine bdr ?_ | refine bs ?_ (by simp)))) hb14
  have B14 : Below w.heap.size w w14 := bt B13 D14
  have b5c0_14 : w14.cell? ⟨w.heap.size, 0, none⟩ = some ((.slice p2head x2.head.length q2head)) := cell_below b5c0_13 D14
  have b5c1_14 : w14.cell? ⟨w.heap.size, 1, none⟩ = some ((.slice p2atoms x2.atoms.length q2atoms)) := cell_below b5c1_13 D14
  have b13c0_14 : w14.cell? ⟨w9.heap.size, 0, none⟩ = some ((.slice d7ahead x2.head.length d7chead)) := cell_below b13c0_13 D14
  have b13c1_14 : w14.cell? ⟨w9.heap.size, 1, none⟩ = some ((.slice d7aatoms x2.atoms.length d7catoms)) := cell_below b13c1_13 D14
  have d4h_14 := d4h_13.below' D14
  have d5h_14 := d5h_13.below' D14
  have d6h_14 := d6h_13.below' D14
  have d7hhead_14 := d7hhead_13.below' D14
  have d7hatoms_14 := d7hatoms_13.below' D14
  have d8h_14 := d8h_13.below' D14
  clear b5c0_13 b5c1_13 b13c0_13 b13c1_13 d4h_13 d5h_13 d6h_13 d7hhead_13 d7hatoms_13 d8h_13
  go_wp2_with fail
  refine (eqMethodS_any _ _ l1 l1 _ _ _ (meths.below' d6h_14 ?_) (meths.below' d10h_14 ?_)).mono ?_
  · (repeat (first | exact Below.refl _ _ | refine ba ?_ | refine bdr ?_ | refine bs ?_ (by simp)))
  · (repeat (first | exact Below.refl _ _ | refine ba ?_ | refine bdr ?_ | refine bs ?_ (by simp)))
  rintro e w15 ⟨rfl, hb15⟩
  have D15 : Below w14.heap.size w14 w15 := bt (by (repeat (first | exact Below.refl _ _ | refine ba ?_ | refine bdr ?_ | refine bs ?_ (by simp)))) hb15
  have B15 : Below w.heap.size w w15 := bt B14 D15
  have b5c0_15 : w15.cell? ⟨w.heap.size, 0, none⟩ = some ((.slice p2head x2.head.length q2head)) := cell_below b5c0_14 D15
  have b5c1_15 : w15.cell? ⟨w.heap.size, 1, none⟩ = some ((.slice p2atoms x2.atoms.length q2atoms)) := cell_below b5c1_14 D15
  have b13c0_15 : w15.cell? ⟨w9.heap.size, 0, none⟩ = some ((.slice d7ahead x2.head.length d7chead)) := cell_below b13c0_14 D15
  have b13c1_15 : w15.cell? ⟨w9.heap.size, 1, none⟩ = some ((.slice d7aatoms x2.atoms.length d7catoms)) := cell_below b13c1_14 D15
  have d4h_15 := d4h_14.below' D15
  have d5h_15 := d5h_14.below' D15
  have d6h_15 := d6h_14.below' D15
  have d7hhead_15 := d7hhead_14.below' D15
  have d7hatoms_15 := d7hatoms_14.below' D15
  have d8h_15 := d8h_14.below' D15
  clear b5c0_14 b5c1_14 b13c0_14 b13c1_14 d4h_14 d5h_14 d6h_14 d7hhead_14 d7hatoms_14 d8h_14 d10h_14
  go_wp2_with fail
  go_region_held3 (fun w' => w'.cell? ⟨w9.heap.size, 0, none⟩ = some ((.slice d7ahead x2.head.length d7chead)) ∧ w'.cell? ⟨w9.heap.size, 1, none⟩ = some ((.slice d7aatoms x2.atoms.length d7catoms)) ∧ w'.cell? ⟨w.heap.size, 0, none⟩ = some ((.slice p2head x2.head.length q2head)) ∧ w'.cell? ⟨w.heap.size, 1, none⟩ = some ((.slice p2atoms x2.atoms.length q2atoms))) (first | exact ⟨b13c0_15, b13c1_15, b5c0_15, b5c1_15⟩ | exact ⟨b13c0_16, b13c1_16, b5c0_16, b5c1_16⟩ | exact ⟨b13c0_17, b13c1_17, b5c0_17, b5c1_17⟩)
    (first
      | (go_at_call 9
         with_reducible refine (toQuery_any x2 _ _ _ (intsV.below' h2head ?_) nx2head (atomsV.below' h2atoms ?_) nx2atoms nx2atomsi).mono ?_
         · (repeat (first | exact B15 | refine ba ?_ | refine bdr ?_ | refine bs ?_ (by simp)))
         · (repeat (first | exact B15 | refine ba ?_ | refine bdr ?_ | refine bs ?_ (by simp)))
         rintro e w16 ⟨d11vhead, d11vatoms, d11fhead, d11fatoms, rfl, d11hhead_16, d11hatoms_16, d11fr, hb16⟩
         obtain ⟨d11ahead, d11chead, rfl⟩ := slR.form d11hhead_16
         obtain ⟨d11aatoms, d11catoms, rfl⟩ := slR.form d11hatoms_16
         have d11F : Fresh w15.heap.size (d11fhead ++ d11fatoms) := d11fr.mono (Below.size (B := w15.heap.size) (by (repeat (first | exact Below.refl _ _ | refine ba ?_ | refine bdr ?_ | refine bs ?_ (by simp)))))
         have Xd5f_d11 : ∀ g ∈ d5f, g ∉ d11fhead ++ d11fatoms := fun g hg => d11F.notin (d5h_15.lt g hg)
         have Xd6f_d11 : ∀ g ∈ d6f, g ∉ d11fhead ++ d11fatoms := fun g hg => d11F.notin (d6h_15.lt g hg)
         have Xd7fhead_d11 : ∀ g ∈ d7fhead, g ∉ d11fhead ++ d11fatoms := fun g hg => d11F.notin (d7hhead_15.lt g hg)
         have Xd7fatoms_d11 : ∀ g ∈ d7fatoms, g ∉ d11fhead ++ d11fatoms := fun g hg => d11F.notin (d7hatoms_15.lt g hg)
         have Xd8f_d11 : ∀ g ∈ d8f, g ∉ d11fhead ++ d11fatoms := fun g hg => d11F.notin (d8h_15.lt g hg)
         have D16 : Below w15.heap.size w15 w16 := bt (by (repeat (first | exact Below.refl _ _ | refine ba ?_ | refine bdr ?_ | refine bs ?_ (by simp)))) hb16
         have B16 : Below w.heap.size w w16 := bt B15 D16
         have b5c0_16 : w16.cell? ⟨w.heap.size, 0, none⟩ = some ((.slice p2head x2.head.length q2head)) := cell_below b5c0_15 D16
         have b5c1_16 : w16.cell? ⟨w.heap.size, 1, none⟩ = some ((.slice p2atoms x2.atoms.length q2atoms)) := cell_below b5c1_15 D16
         have b13c0_16 : w16.cell? ⟨w9.heap.size, 0, none⟩ = some ((.slice d7ahead x2.head.length d7chead)) := cell_below b13c0_15 D16
         have b13c1_16 : w16.cell? ⟨w9.heap.size, 1, none⟩ = some ((.slice d7aatoms x2.atoms.length d7catoms)) := cell_below b13c1_15 D16
         have d4h_16 := d4h_15.below' D16
         have d5h_16 := d5h_15.below' D16
         have d6h_16 := d6h_15.below' D16
         have d7hhead_16 := d7hhead_15.below' D16
         have d7hatoms_16 := d7hatoms_15.below' D16
         have d8h_16 := d8h_15.below' D16)
      | (go_at_call 14
         with_reducible refine (eqQuery_any x2 x2 _ _ _ _ _ _ _ _ _ (ints.below' d7hhead_16 ?_) (ints.below' d11hhead_16 ?_) (atoms.below' d7hatoms_16 ?_) (atoms.below' d11hatoms_16 ?_)).mono ?_
         · (repeat (first | exact Below.refl _ _ | refine ba ?_ | refine bdr ?_ | refine bs ?_ (by simp)))
         · (repeat (first | exact Below.refl _ _ | refine ba ?_ | refine bdr ?_ | refine bs ?_ (by simp)))
         · (repeat (first | exact Below.refl _ _ | refine ba ?_ | refine bdr ?_ | refine bs ?_ (by simp)))
         · (repeat (first | exact Below.refl _ _ | refine ba ?_ | refine bdr ?_ | refine bs ?_ (by simp)))
         rintro e w17 ⟨rfl, hb17⟩
         have D17 : Below w16.heap.size w16 w17 := bt (by (repeat (first | exact Below.refl _ _ | refine ba ?_ | refine bdr ?_ | refine bs ?_ (by simp)))) hb17
         have B17 : Below w.heap.size w w17 := bt B16 D17
         have b5c0_17 : w17.cell? ⟨w.heap.size, 0, none⟩ = some ((.slice p2head x2.head.length q2head)) := cell_below b5c0_16 D17
         have b5c1_17 : w17.cell? ⟨w.heap.size, 1, none⟩ = some ((.slice p2atoms x2.atoms.length q2atoms)) := cell_below b5c1_16 D17
         have b13c0_17 : w17.cell? ⟨w9.heap.size, 0, none⟩ = some ((.slice d7ahead x2.head.length d7chead)) := cell_below b13c0_16 D17
         have b13c1_17 : w17.cell? ⟨w9.heap.size, 1, none⟩ = some ((.slice d7aatoms x2.atoms.length d7catoms)) := cell_below b13c1_16 D17
         have d4h_17 := d4h_16.below' D17
         have d5h_17 := d5h_16.below' D17
         have d6h_17 := d6h_16.below' D17
         have d7hhead_17 := d7hhead_16.below' D17
         have d7hatoms_17 := d7hatoms_16.below' D17
         have d8h_17 := d8h_16.below' D17))
  clear b5c0_15 b5c1_15 b13c0_15 b13c1_15 d4h_15 d5h_15 d6h_15 d7hhead_15 d7hatoms_15 d8h_15 b5c0_16 b5c1_16 b13c0_16 b13c1_16 d4h_16 d5h_16 d6h_16 d7hhead_16 d7hatoms_16 d8h_16 d11hhead_16 d11hatoms_16
  go_wp2_with fail
  refine (markIntS_any _ l0 d5f (1) _ (ints.below' d5h_17 ?_) ⟨by omega, by omega⟩ (by omega)).mono ?_
  · (repeat (first | exact Below.refl _ _ | refine ba ?_ | refine bdr ?_ | refine bs ?_ (by simp)))
  rintro e w18 ⟨rfl, d5hm, hw18⟩
  have B18 : Below w.heap.size w w18 := bw B17 hw18 d5L
  have b5c0_18 : w18.cell? ⟨w.heap.size, 0, none⟩ = some ((.slice p2head x2.head.length q2head)) := (hw18.cellAt (lt_of_cell b5c0_17) Nb5_d5).trans b5c0_17
  have b5c1_18 : w18.cell? ⟨w.heap.size, 1, none⟩ = some ((.slice p2atoms x2.atoms.length q2atoms)) := (hw18.cellAt (lt_of_cell b5c1_17) Nb5_d5).trans b5c1_17
  have b13c0_18 : w18.cell? ⟨w9.heap.size, 0, none⟩ = some ((.slice d7ahead x2.head.length d7chead)) := (hw18.cellAt (lt_of_cell b13c0_17) Nb13_d5).trans b13c0_17
  have b13c1_18 : w18.cell? ⟨w9.heap.size, 1, none⟩ = some ((.slice d7aatoms x2.atoms.length d7catoms)) := (hw18.cellAt (lt_of_cell b13c1_17) Nb13_d5).trans b13c1_17
  have d4h_18 := steps.frame d4h_17 fun g hg => hw18.block g (d4h_17.lt g hg) (Xd4f_d5 g hg)
  have d6h_18 := meths.frame d6h_17 fun g hg => hw18.block g (d6h_17.lt g hg) ((fun hgx => Xd5f_d6 g hgx (by simp [hg])))
  have d7hhead_18 := ints.frame d7hhead_17 fun g hg => hw18.block g (d7hhead_17.lt g hg) ((fun hgx => Xd5f_d7 g hgx (by simp [hg])))
  have d7hatoms_18 := atoms.frame d7hatoms_17 fun g hg => hw18.block g (d7hatoms_17.lt g hg) ((fun hgx => Xd5f_d7 g hgx (by simp [hg])))
  have d8h_18 := steps.frame d8h_17 fun g hg => hw18.block g (d8h_17.lt g hg) ((fun hgx => Xd5f_d8 g hgx (by simp [hg])))
  clear b5c0_17 b5c1_17 b13c0_17 b13c1_17 d4h_17 d5h_17 d6h_17 d7hhead_17 d7hatoms_17 d8h_17
  go_wp2_with fail
  refine (markMethodS_any _ l1 d6f (1 + l0.length) _ (meths.below' d6h_18 ?_) d6F.1 (by omega) (by omega)).mono ?_
  · (repeat (first | exact Below.refl _ _ | refine ba ?_ | refine bdr ?_ | refine bs ?_ (by simp)))
  rintro e w19 ⟨rfl, d6hm, hw19⟩
  have B19 : Below w.heap.size w w19 := bw B18 hw19 d6L
  have b5c0_19 : w19.cell? ⟨w.heap.size, 0, none⟩ = some ((.slice p2head x2.head.length q2head)) := (hw19.cellAt (lt_of_cell b5c0_18) Nb5_d6).trans b5c0_18
  have b5c1_19 : w19.cell? ⟨w.heap.size, 1, none⟩ = some ((.slice p2atoms x2.atoms.length q2atoms)) := (hw19.cellAt (lt_of_cell b5c1_18) Nb5_d6).trans b5c1_18
  have b13c0_19 : w19.cell? ⟨w9.heap.size, 0, none⟩ = some ((.slice d7ahead x2.head.length d7chead)) := (hw19.cellAt (lt_of_cell b13c0_18) Nb13_d6).trans b13c0_18
  have b13c1_19 : w19.cell? ⟨w9.heap.size, 1, none⟩ = some ((.slice d7aatoms x2.atoms.length d7catoms)) := (hw19.cellAt (lt_of_cell b13c1_18) Nb13_d6).trans b13c1_18
  have d4h_19 := steps.frame d4h_18 fun g hg => hw19.block g (d4h_18.lt g hg) (Xd4f_d6 g hg)
  have d7hhead_19 := ints.frame d7hhead_18 fun g hg => hw19.block g (d7hhead_18.lt g hg) ((fun hgx => Xd6f_d7 g hgx (by simp [hg])))
  have d7hatoms_19 := atoms.frame d7hatoms_18 fun g hg => hw19.block g (d7hatoms_18.lt g hg) ((fun hgx => Xd6f_d7 g hgx (by simp [hg])))
  have d8h_19 := steps.frame d8h_18 fun g hg => hw19.block g (d8h_18.lt g hg) ((fun hgx => Xd6f_d8 g hgx (by simp [hg])))
  clear b5c0_18 b5c1_18 b13c0_18 b13c1_18 d4h_18 d6h_18 d7hhead_18 d7hatoms_18 d8h_18
  go_wp2_with fail
  refine (markQuery_any x2 _ _ d7fhead d7fatoms (1 + l0.length + ((l1.map cntMethod).sum : Nat)) _ (ints.below' d7hhead_19 ?_) (atoms.below' d7hatoms_19 ?_) d7F.1 (by omega) (by omega)).mono ?_
  · (repeat (first | exact Below.refl _ _ | refine ba ?_ | refine bdr ?_ | refine bs ?_ (by simp)))
  · (repeat (first | exact Below.refl _ _ | refine ba ?_ | refine bdr ?_ | refine bs ?_ (by simp)))
  rintro e w20 ⟨rfl, d7hheadm, d7hatomsm, hw20⟩
  have B20 : Below w.heap.size w w20 := bw B19 hw20 d7L
  have b5c0_20 : w20.cell? ⟨w.heap.size, 0, none⟩ = some ((.slice p2head x2.head.length q2head)) := (hw20.cellAt (lt_of_cell b5c0_19) Nb5_d7).trans b5c0_19
  have b5c1_20 : w20.cell? ⟨w.heap.size, 1, none⟩ = some ((.slice p2atoms x2.atoms.length q2atoms)) := (hw20.cellAt (lt_of_cell b5c1_19) Nb5_d7).trans b5c1_19
  have d4h_20 := steps.frame d4h_19 fun g hg => hw20.block g (d4h_19.lt g hg) (Xd4f_d7 g hg)
  have d8h_20 := steps.frame d8h_19 fun g hg => hw20.block g (d8h_19.lt g hg) ((fun hgx => (List.mem_append.1 hgx).elim (fun h => Xd7fhead_d8 g h (by simp [hg])) (fun h => Xd7fatoms_d8 g h (by simp [hg]))))
  clear b5c0_19 b5c1_19 b13c0_19 b13c1_19 d4h_19 d7hhead_19 d7hatoms_19 d8h_19
  go_wp2_with fail
  refine (eqStepS_any _ _ ((cheapL l0 l1 x2).1) ((cheapL l0 l1 x2).1) _ _ _ (steps.below' d8h_20 ?_) (steps.below' d4h_20 ?_)).mono ?_
  · (repeat (first | exact Below.refl _ _ | refine ba ?_ | refine bdr ?_ | refine bs ?_ (by simp)))
  · (repeat (first | exact Below.refl _ _ | refine ba ?_ | refine bdr ?_ | refine bs ?_ (by simp)))
  rintro e w21 ⟨rfl, hb21⟩
  have D21 : Below w20.heap.size w20 w21 := bt (by (repeat (first | exact Below.refl _ _ | refine ba ?_ | refine bdr ?_ | refine bs ?_ (by simp)))) hb21
  have B21 : Below w.heap.size w w21 := bt B20 D21
  have b5c0_21 : w21.cell? ⟨w.heap.size, 0, none⟩ = some ((.slice p2head x2.head.length q2head)) := cell_below b5c0_20 D21
  have b5c1_21 : w21.cell? ⟨w.heap.size, 1, none⟩ = some ((.slice p2atoms x2.atoms.length q2atoms)) := cell_below b5c1_20 D21
  have d4h_21 := d4h_20.below' D21
  have d8h_21 := d8h_20.below' D21
  clear b5c0_20 b5c1_20 d4h_20 d8h_20
  go_wp2_with fail
  refine (markStepS_any _ ((cheapL l0 l1 x2).1) d8f (1) _ (steps.below' d8h_21 ?_) d8F.1 (by omega) (by omega)).mono ?_
  · (repeat (first | exact Below.refl _ _ | refine ba ?_ | refine bdr ?_ | refine bs ?_ (by simp)))
  rintro e w22 ⟨rfl, d8hm, hw22⟩
  have B22 : Below w.heap.size w w22 := bw B21 hw22 d8L
  have b5c0_22 : w22.cell? ⟨w.heap.size, 0, none⟩ = some ((.slice p2head x2.head.length q2head)) := (hw22.cellAt (lt_of_cell b5c0_21) Nb5_d8).trans b5c0_21
  have b5c1_22 : w22.cell? ⟨w.heap.size, 1, none⟩ = some ((.slice p2atoms x2.atoms.length q2atoms)) := (hw22.cellAt (lt_of_cell b5c1_21) Nb5_d8).trans b5c1_21
  have d4h_22 := steps.frame d4h_21 fun g hg => hw22.block g (d4h_21.lt g hg) (Xd4f_d8 g hg)
  have d8h_22 := d8hm
  clear b5c0_21 b5c1_21 d4h_21 d8h_21
  go_wp2_with fail
  refine (heldStepS_any _ ((cheapL l0 l1 x2).1) _ (1) _ (steps.below' d8h_22 ?_) (by omega) (by omega)).mono ?_
  · (repeat (first | exact Below.refl _ _ | refine ba ?_ | refine bdr ?_ | refine bs ?_ (by simp)))
  rintro e w23 ⟨rfl, hb23⟩
  have D23 : Below w22.heap.size w22 w23 := bt (by (repeat (first | exact Below.refl _ _ | refine ba ?_ | refine bdr ?_ | refine bs ?_ (by simp)))) hb23
  have B23 : Below w.heap.size w w23 := bt B22 D23
  have b5c0_23 : w23.cell? ⟨w.heap.size, 0, none⟩ = some ((.slice p2head x2.head.length q2head)) := cell_below b5c0_22 D23
  have b5c1_23 : w23.cell? ⟨w.heap.size, 1, none⟩ = some ((.slice p2atoms x2.atoms.length q2atoms)) := cell_below b5c1_22 D23
  have d4h_23 := d4h_22.below' D23
  have d8h_23 := d8h_22.below' D23
  clear b5c0_22 b5c1_22 d4h_22 d8h_22
  go_wp2_with fail
  go_region_held3 (fun w' => w'.cell? ⟨w.heap.size, 0, none⟩ = some ((.slice p2head x2.head.length q2head)) ∧ w'.cell? ⟨w.heap.size, 1, none⟩ = some ((.slice p2atoms x2.atoms.length q2atoms))) (first | exact ⟨b5c0_23, b5c1_23⟩ | exact ⟨b5c0_24, b5c1_24⟩ | exact ⟨b5c0_25, b5c1_25⟩ | exact ⟨b5c0_26, b5c1_26⟩ | exact ⟨b5c0_27, b5c1_27⟩)
    (first
      | (go_at_call 7
         with_reducible refine (toIntS_any _ l0 _ (intsV.below' g0 ?_) n0).mono ?_
         · (repeat (first | exact B23 | refine ba ?_ | refine bdr ?_ | refine bs ?_ (by simp)))
         rintro e w24 ⟨d12v, d12f, rfl, d12h_24, d12fr, hb24⟩
         obtain ⟨d12a, d12c, rfl⟩ := slR.form d12h_24
         have D24 : Below w23.heap.size w23 w24 := bt (by (repeat (first | exact Below.refl _ _ | refine ba ?_ | refine bdr ?_ | refine bs ?_ (by simp)))) hb24
         have B24 : Below w.heap.size w w24 := bt B23 D24
         have b5c0_24 : w24.cell? ⟨w.heap.size, 0, none⟩ = some ((.slice p2head x2.head.length q2head)) := cell_below b5c0_23 D24
         have b5c1_24 : w24.cell? ⟨w.heap.size, 1, none⟩ = some ((.slice p2atoms x2.atoms.length q2atoms)) := cell_below b5c1_23 D24
         have d4h_24 := d4h_23.below' D24
         have d8h_24 := d8h_23.below' D24)
      | (go_at_call 8
         with_reducible refine (toMethodS_any _ l1 _ (methsV.below' g1 ?_) nl1 nl1i).mono ?_
         · (repeat (first | exact B24 | refine ba ?_ | refine bdr ?_ | refine bs ?_ (by simp)))
         rintro e w25 ⟨d13v, d13f, rfl, d13h_25, d13fr, hb25⟩
         obtain ⟨d13a, d13c, rfl⟩ := slR.form d13h_25
         have D25 : Below w24.heap.size w24 w25 := bt (by (repeat (first | exact Below.refl _ _ | refine ba ?_ | refine bdr ?_ | refine bs ?_ (by simp)))) hb25
         have B25 : Below w.heap.size w w25 := bt B24 D25
         have b5c0_25 : w25.cell? ⟨w.heap.size, 0, none⟩ = some ((.slice p2head x2.head.length q2head)) := cell_below b5c0_24 D25
         have b5c1_25 : w25.cell? ⟨w.heap.size, 1, none⟩ = some ((.slice p2atoms x2.atoms.length q2atoms)) := cell_below b5c1_24 D25
         have d4h_25 := d4h_24.below' D25
         have d8h_25 := d8h_24.below' D25
         have d12h_25 := d12h_24.below' D25)
      | (go_at_call 9
         with_reducible refine (toQuery_any x2 _ _ _ (intsV.below' h2head ?_) nx2head (atomsV.below' h2atoms ?_) nx2atoms nx2atomsi).mono ?_
         · (repeat (first | exact B25 | refine ba ?_ | refine bdr ?_ | refine bs ?_ (by simp)))
         · (repeat (first | exact B25 | refine ba ?_ | refine bdr ?_ | refine bs ?_ (by simp)))
         rintro e w26 ⟨d14vhead, d14vatoms, d14fhead, d14fatoms, rfl, d14hhead_26, d14hatoms_26, d14fr, hb26⟩
         obtain ⟨d14ahead, d14chead, rfl⟩ := slR.form d14hhead_26
         obtain ⟨d14aatoms, d14catoms, rfl⟩ := slR.form d14hatoms_26
         have D26 : Below w25.heap.size w25 w26 := bt (by (repeat (first | exact Below.refl _ _ | refine ba ?_ | refine bdr ?_ | refine bs ?_ (by simp)))) hb26
         have B26 : Below w.heap.size w w26 := bt B25 D26
         have b5c0_26 : w26.cell? ⟨w.heap.size, 0, none⟩ = some ((.slice p2head x2.head.length q2head)) := cell_below b5c0_25 D26
         have b5c1_26 : w26.cell? ⟨w.heap.size, 1, none⟩ = some ((.slice p2atoms x2.atoms.length q2atoms)) := cell_below b5c1_25 D26
         have d4h_26 := d4h_25.below' D26
         have d8h_26 := d8h_25.below' D26
         have d12h_26 := d12h_25.below' D26
         have d13h_26 := d13h_25.below' D26)
      | (go_at_call 10
         with_reducible refine (implCheapestOrder_any _ l0 _ _ l1 _ x2 _ _ _ _ _ (ints.below' d12h_26 ?_) (meths.below' d13h_26 ?_) (ints.below' d14hhead_26 ?_) (atoms.below' d14hatoms_26 ?_) nT).mono ?_
         · (repeat (first | exact Below.refl _ _ | refine ba ?_ | refine bdr ?_ | refine bs ?_ (by simp)))
         · (repeat (first | exact Below.refl _ _ | refine ba ?_ | refine bdr ?_ | refine bs ?_ (by simp)))
         · (repeat (first | exact Below.refl _ _ | refine ba ?_ | refine bdr ?_ | refine bs ?_ (by simp)))
         · (repeat (first | exact Below.refl _ _ | refine ba ?_ | refine bdr ?_ | refine bs ?_ (by simp)))
         rintro e w27 ⟨d15v, d15f, rfl, d15h_27, d15fr, hb27⟩
         obtain ⟨d15a, d15c, rfl⟩ := slR.form d15h_27
         have D27 : Below w26.heap.size w26 w27 := bt (by (repeat (first | exact Below.refl _ _ | refine ba ?_ | refine bdr ?_ | refine bs ?_ (by simp)))) hb27
         have B27 : Below w.heap.size w w27 := bt B26 D27
         have b5c0_27 : w27.cell? ⟨w.heap.size, 0, none⟩ = some ((.slice p2head x2.head.length q2head)) := cell_below b5c0_26 D27
         have b5c1_27 : w27.cell? ⟨w.heap.size, 1, none⟩ = some ((.slice p2atoms x2.atoms.length q2atoms)) := cell_below b5c1_26 D27
         have d4h_27 := d4h_26.below' D27
         have d8h_27 := d8h_26.below' D27))
  clear b5c0_23 b5c1_23 d4h_23 d8h_23 b5c0_24 b5c1_24 d4h_24 d8h_24 d12h_24 b5c0_25 b5c1_25 d4h_25 d8h_25 d12h_25 d13h_25 b5c0_26 b5c1_26 d4h_26 d8h_26 d12h_26 d13h_26 d14hhead_26 d14hatoms_26
  go_wp2_with fail
  refine (eqStepS_any _ _ ((cheapL l0 l1 x2).1) ((cheapL l0 l1 x2).1) _ _ _ (steps.below' d15h_27 ?_) (steps.below' d4h_27 ?_)).mono ?_
  · (repeat (first | exact Below.refl _ _ | refine ba ?_ | refine bdr ?_ | refine bs ?_ (by simp)))
  · (repeat (first | exact Below.refl _ _ | refine ba ?_ | refine bdr ?_ | refine bs ?_ (by simp)))
  rintro e w28 ⟨rfl, hb28⟩
  have D28 : Below w27.heap.size w27 w28 := bt (by (repeat (first | exact Below.refl _ _ | refine ba ?_ | refine bdr ?_ | refine bs ?_ (by simp)))) hb28
  have B28 : Below w.heap.size w w28 := bt B27 D28
  have b5c0_28 : w28.cell? ⟨w.heap.size, 0, none⟩ = some ((.slice p2head x2.head.length q2head)) := cell_below b5c0_27 D28
  have b5c1_28 : w28.cell? ⟨w.heap.size, 1, none⟩ = some ((.slice p2atoms x2.atoms.length q2atoms)) := cell_below b5c1_27 D28
  have d8h_28 := d8h_27.below' D28
  clear b5c0_27 b5c1_27 d4h_27 d8h_27 d15h_27
  go_wp2_with fail
  refine (heldStepS_any _ ((cheapL l0 l1 x2).1) _ (1) _ (steps.below' d8h_28 ?_) (by omega) (by omega)).mono ?_
  · (repeat (first | exact Below.refl _ _ | refine ba ?_ | refine bdr ?_ | refine bs ?_ (by simp)))
  rintro e w29 ⟨rfl, hb29⟩
  have D29 : Below w28.heap.size w28 w29 := bt (by (repeat (first | exact Below.refl _ _ | refine ba ?_ | refine bdr ?_ | refine bs ?_ (by simp)))) hb29
  have B29 : Below w.heap.size w w29 := bt B28 D29
  have b5c0_29 : w29.cell? ⟨w.heap.size, 0, none⟩ = some ((.slice p2head x2.head.length q2head)) := cell_below b5c0_28 D29
  have b5c1_29 : w29.cell? ⟨w.heap.size, 1, none⟩ = some ((.slice p2atoms x2.atoms.length q2atoms)) := cell_below b5c1_28 D29
  clear b5c0_28 b5c1_28 d8h_28
  go_wp2
  go_ret
  exact ⟨rfl, B29⟩
end Go.Proofs.YtpdmdfkcaabnaaaGreat
