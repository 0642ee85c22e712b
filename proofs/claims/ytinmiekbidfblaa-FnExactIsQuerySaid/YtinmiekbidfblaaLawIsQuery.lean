/- The walk of the law FnExactIsQuery: it returns true, whatever the input. -/
import Derived.Test.YtinmiekbidfblaaIsQuery
import Derived.Test.YtinmiekbidfblaaVarsB
import Derived.Test.YtinmiekbidfblaaFacts0
namespace Go.Proofs.Ytinmiekbidfblaa
open Go.RowKit
set_option linter.unusedVariables false
set_option linter.unusedSimpArgs false
set_option maxRecDepth 100000 in
set_option maxHeartbeats 8000000 in
theorem fnExactIsQuery_walk (v0 : Value) (l0 : List Int) (cs1 : List Value) (x1 : QueryD) (w : World) (g0 : intsV w v0 l0) (g1 : queryW w cs1 x1)  :
    Calls Try.prog 14 #[v0, .agg cs1.toArray] w fun e w' => e = .returned (.bool true) ∧ Below w.heap.size w w' := by
  obtain ⟨p0, q0, rfl⟩ := slW.form g0
  obtain ⟨v1head, v1atoms, rfl, h1head, h1atoms⟩ := g1
  obtain ⟨p1head, q1head, rfl⟩ := slW.form h1head
  obtain ⟨p1atoms, q1atoms, rfl⟩ := slW.form h1atoms
  have b3c0_0 : (w.alloc (.cells #[(.slice p1head x1.head.length q1head), (.slice p1atoms x1.atoms.length q1atoms)] 78)).cell? ⟨w.heap.size, 0, none⟩ = some ((.slice p1head x1.head.length q1head)) := cell_new w _ _ 0 _ rfl
  have b3c1_0 : (w.alloc (.cells #[(.slice p1head x1.head.length q1head), (.slice p1atoms x1.atoms.length q1atoms)] 78)).cell? ⟨w.heap.size, 1, none⟩ = some ((.slice p1atoms x1.atoms.length q1atoms)) := cell_new w _ _ 1 _ rfl
  by_cases n0 : l0.length ≤ 1048576
  case neg =>
    go_enter Try.func14, Try.ntmps14
    go_wp2
    go_ret
    exact ⟨rfl, by (repeat (first | exact Below.refl _ _ | refine ba ?_ | refine bdr ?_ | refine bs ?_ (by simp)))⟩
  have rr : (queryB l0 x1 != queryB l0 x1) = false := by simp
  have rd0 : decide (l0 = l0) = true := by simp
  have rd1 : decide (x1 = x1) = true := by simp
  go_enter Try.func14, Try.ntmps14
  go_wp2_with fail
  refine (szQuery_any x1 _ _ (1048576) _ (intsV.below' h1head ?_) (atomsV.below' h1atoms ?_) ⟨by omega, by omega⟩).mono ?_
  · (repeat (first | exact Below.refl _ _ | refine ba ?_ | refine bdr ?_ | refine bs ?_ (by simp)))
  · (repeat (first | exact Below.refl _ _ | refine ba ?_ | refine bdr ?_ | refine bs ?_ (by simp)))
  rintro e w1 ⟨rfl, hb1⟩
  have D1 : Below w.heap.size w w1 := bt (by (repeat (first | exact Below.refl _ _ | refine ba ?_ | refine bdr ?_ | refine bs ?_ (by simp)))) hb1
  have B1 : Below w.heap.size w w1 := D1
  have b3c0_1 : w1.cell? ⟨w.heap.size, 0, none⟩ = some ((.slice p1head x1.head.length q1head)) := cell_below (b3c0_0) hb1
  have b3c1_1 : w1.cell? ⟨w.heap.size, 1, none⟩ = some ((.slice p1atoms x1.atoms.length q1atoms)) := cell_below (b3c1_0) hb1
  clear b3c0_0 b3c1_0
  rcases left_cases (bulkQuery x1) (1048576) (by omega) with ⟨t0, t1⟩ | ⟨t0, t1⟩
  case inl =>
    have T1 := Lib.hid t1; clear t1
    go_wp2
    go_ret
    exact ⟨rfl, B1⟩
  have T1 := Lib.hid t1; clear t1
  obtain ⟨qx1, ex11, ex12⟩ := left_bd t0 (by omega) (by omega)
  clear t0
  have nx1head : x1.head.length ≤ 1048576 := by have h9 := qx1; unfold bulkQuery at h9; omega
  have nx1atoms : x1.atoms.length ≤ 1048576 := by have h9 := qx1; unfold bulkQuery bulkAtomS at h9; omega
  have nx1atomsi : ∀ y ∈ x1.atoms, y.terms.length ≤ 1048576 := fun y hy => by have h9 := qx1; unfold bulkQuery bulkAtomS at h9; have h8 := sum_ge_mem (f := fun x => bulkAtom x) hy; unfold bulkAtom at h8 h9; omega
  have nT : (termsL x1.atoms).length ≤ 1048576 := termsL_bulk qx1
  go_wp2_with fail
  go_region_held3 (fun w' => w'.cell? ⟨w.heap.size, 0, none⟩ = some ((.slice p1head x1.head.length q1head)) ∧ w'.cell? ⟨w.heap.size, 1, none⟩ = some ((.slice p1atoms x1.atoms.length q1atoms))) (first | exact ⟨b3c0_1, b3c1_1⟩ | exact ⟨b3c0_2, b3c1_2⟩ | exact ⟨b3c0_3, b3c1_3⟩ | exact ⟨b3c0_4, b3c1_4⟩)
    (first
      | (go_at_call 18
         with_reducible refine (toIntS_any _ l0 _ (intsV.below' g0 ?_) n0).mono ?_
         · (repeat (first | exact B1 | refine ba ?_ | refine bdr ?_ | refine bs ?_ (by simp)))
         rintro e w2 ⟨d1v, d1f, rfl, d1h_2, d1fr, hb2⟩
         obtain ⟨d1a, d1c, rfl⟩ := slR.form d1h_2
         have D2 : Below w1.heap.size w1 w2 := bt (by (repeat (first | exact Below.refl _ _ | refine ba ?_ | refine bdr ?_ | refine bs ?_ (by simp)))) hb2
         have B2 : Below w.heap.size w w2 := bt B1 D2
         have b3c0_2 : w2.cell? ⟨w.heap.size, 0, none⟩ = some ((.slice p1head x1.head.length q1head)) := cell_below b3c0_1 D2
         have b3c1_2 : w2.cell? ⟨w.heap.size, 1, none⟩ = some ((.slice p1atoms x1.atoms.length q1atoms)) := cell_below b3c1_1 D2)
      | (go_at_call 55
         with_reducible refine (toQuery_any x1 _ _ _ (intsV.below' h1head ?_) nx1head (atomsV.below' h1atoms ?_) nx1atoms nx1atomsi).mono ?_
         · (repeat (first | exact B2 | refine ba ?_ | refine bdr ?_ | refine bs ?_ (by simp)))
         · (repeat (first | exact B2 | refine ba ?_ | refine bdr ?_ | refine bs ?_ (by simp)))
         rintro e w3 ⟨d2vhead, d2vatoms, d2fhead, d2fatoms, rfl, d2hhead_3, d2hatoms_3, d2fr, hb3⟩
         obtain ⟨d2ahead, d2chead, rfl⟩ := slR.form d2hhead_3
         obtain ⟨d2aatoms, d2catoms, rfl⟩ := slR.form d2hatoms_3
         have D3 : Below w2.heap.size w2 w3 := bt (by (repeat (first | exact Below.refl _ _ | refine ba ?_ | refine bdr ?_ | refine bs ?_ (by simp)))) hb3
         have B3 : Below w.heap.size w w3 := bt B2 D3
         have b3c0_3 : w3.cell? ⟨w.heap.size, 0, none⟩ = some ((.slice p1head x1.head.length q1head)) := cell_below b3c0_2 D3
         have b3c1_3 : w3.cell? ⟨w.heap.size, 1, none⟩ = some ((.slice p1atoms x1.atoms.length q1atoms)) := cell_below b3c1_2 D3
         have d1h_3 := d1h_2.below' D3)
      | (go_at_call 79
         with_reducible refine (specIsQuery_any _ l0 _ x1 _ _ _ _ _ (ints.below' d1h_3 ?_) (ints.below' d2hhead_3 ?_) (atoms.below' d2hatoms_3 ?_) nT).mono ?_
         · (repeat (first | exact Below.refl _ _ | refine ba ?_ | refine bdr ?_ | refine bs ?_ (by simp)))
         · (repeat (first | exact Below.refl _ _ | refine ba ?_ | refine bdr ?_ | refine bs ?_ (by simp)))
         · (repeat (first | exact Below.refl _ _ | refine ba ?_ | refine bdr ?_ | refine bs ?_ (by simp)))
         rintro e w4 ⟨rfl, hb4⟩
         have D4 : Below w3.heap.size w3 w4 := bt (by (repeat (first | exact Below.refl _ _ | refine ba ?_ | refine bdr ?_ | refine bs ?_ (by simp)))) hb4
         have B4 : Below w.heap.size w w4 := bt B3 D4
         have b3c0_4 : w4.cell? ⟨w.heap.size, 0, none⟩ = some ((.slice p1head x1.head.length q1head)) := cell_below b3c0_3 D4
         have b3c1_4 : w4.cell? ⟨w.heap.size, 1, none⟩ = some ((.slice p1atoms x1.atoms.length q1atoms)) := cell_below b3c1_3 D4))
  clear b3c0_1 b3c1_1 b3c0_2 b3c1_2 d1h_2 b3c0_3 b3c1_3 d1h_3 d2hhead_3 d2hatoms_3
  go_wp2_with fail
  refine (toIntS_any _ l0 _ (intsV.below' g0 ?_) n0).mono ?_
  · (repeat (first | exact B4 | refine ba ?_ | refine bdr ?_ | refine bs ?_ (by simp)))
  rintro e w5 ⟨d3v, d3f, rfl, d3h_5, d3fr, hb5⟩
  obtain ⟨d3a, d3c, rfl⟩ := slR.form d3h_5
  have D5 : Below w4.heap.size w4 w5 := bt (by (repeat (first | exact Below.refl _ _ | refine ba ?_ | refine bdr ?_ | refine bs ?_ (by simp)))) hb5
  have B5 : Below w.heap.size w w5 := bt B4 D5
  have b3c0_5 : w5.cell? ⟨w.heap.size, 0, none⟩ = some ((.slice p1head x1.head.length q1head)) := cell_below b3c0_4 D5
  have b3c1_5 : w5.cell? ⟨w.heap.size, 1, none⟩ = some ((.slice p1atoms x1.atoms.length q1atoms)) := cell_below b3c1_4 D5
  clear b3c0_4 b3c1_4
  go_wp2_with fail
  refine (toQuery_any x1 _ _ _ (intsV.below' h1head ?_) nx1head (atomsV.below' h1atoms ?_) nx1atoms nx1atomsi).mono ?_
  · (repeat (first | exact B5 | refine ba ?_ | refine bdr ?_ | refine bs ?_ (by simp)))
  · (repeat (first | exact B5 | refine ba ?_ | refine bdr ?_ | refine bs ?_ (by simp)))
  rintro e w6 ⟨d4vhead, d4vatoms, d4fhead, d4fatoms, rfl, d4hhead_6, d4hatoms_6, d4fr, hb6⟩
  obtain ⟨d4ahead, d4chead, rfl⟩ := slR.form d4hhead_6
  obtain ⟨d4aatoms, d4catoms, rfl⟩ := slR.form d4hatoms_6
  have D6 : Below w5.heap.size w5 w6 := bt (by (repeat (first | exact Below.refl _ _ | refine ba ?_ | refine bdr ?_ | refine bs ?_ (by simp)))) hb6
  have B6 : Below w.heap.size w w6 := bt B5 D6
  have b3c0_6 : w6.cell? ⟨w.heap.size, 0, none⟩ = some ((.slice p1head x1.head.length q1head)) := cell_below b3c0_5 D6
  have b3c1_6 : w6.cell? ⟨w.heap.size, 1, none⟩ = some ((.slice p1atoms x1.atoms.length q1atoms)) := cell_below b3c1_5 D6
  have d3h_6 := d3h_5.below' D6
  clear b3c0_5 b3c1_5 d3h_5
  have b3c0_6n := fun o => cell_al b3c0_6 o
  have b3c1_6n := fun o => cell_al b3c1_6 o
  go_wp2_with fail
  refine (implIsQuery_any _ l0 _ x1 _ _ _ _ _ (ints.below' d3h_6 ?_) (ints.below' d4hhead_6 ?_) (atoms.below' d4hatoms_6 ?_) nT).mono ?_
  · (repeat (first | exact Below.refl _ _ | refine ba ?_ | refine bdr ?_ | refine bs ?_ (by simp)))
  · (repeat (first | exact Below.refl _ _ | refine ba ?_ | refine bdr ?_ | refine bs ?_ (by simp)))
  · (repeat (first | exact Below.refl _ _ | refine ba ?_ | refine bdr ?_ | refine bs ?_ (by simp)))
  rintro e w7 ⟨rfl, hb7⟩
  have D7 : Below w6.heap.size w6 w7 := bt (by (repeat (first | exact Below.refl _ _ | refine ba ?_ | refine bdr ?_ | refine bs ?_ (by simp)))) hb7
  have B7 : Below w.heap.size w w7 := bt B6 D7
  have b3c0_7 : w7.cell? ⟨w.heap.size, 0, none⟩ = some ((.slice p1head x1.head.length q1head)) := cell_below b3c0_6 D7
  have b3c1_7 : w7.cell? ⟨w.heap.size, 1, none⟩ = some ((.slice p1atoms x1.atoms.length q1atoms)) := cell_below b3c1_6 D7
  have b8c0_7 : w7.cell? ⟨w6.heap.size, 0, none⟩ = some ((.slice d4ahead x1.head.length d4chead)) := cell_below (cell_new _ _ _ 0 _ rfl) hb7
  have b8c1_7 : w7.cell? ⟨w6.heap.size, 1, none⟩ = some ((.slice d4aatoms x1.atoms.length d4catoms)) := cell_below (cell_new _ _ _ 1 _ rfl) hb7
  have d3h_7 := d3h_6.below' D7
  have d4hhead_7 := d4hhead_6.below' D7
  have d4hatoms_7 := d4hatoms_6.below' D7
  clear b3c0_6 b3c1_6 d3h_6 d4hhead_6 d4hatoms_6 b3c0_6n b3c1_6n
  go_wp2_with fail
  refine (toIntS_any _ l0 _ (intsV.below' g0 ?_) n0).mono ?_
  · (repeat (first | exact B7 | refine ba ?_ | refine bdr ?_ | refine bs ?_ (by simp)))
  rintro e w8 ⟨d5v, d5f, rfl, d5h_8, d5fr, hb8⟩
  obtain ⟨d5a, d5c, rfl⟩ := slR.form d5h_8
  have D8 : Below w7.heap.size w7 w8 := bt (by (repeat (first | exact Below.refl _ _ | refine ba ?_ | refine bdr ?_ | refine bs ?_ (by simp)))) hb8
  have B8 : Below w.heap.size w w8 := bt B7 D8
  have b3c0_8 : w8.cell? ⟨w.heap.size, 0, none⟩ = some ((.slice p1head x1.head.length q1head)) := cell_below b3c0_7 D8
  have b3c1_8 : w8.cell? ⟨w.heap.size, 1, none⟩ = some ((.slice p1atoms x1.atoms.length q1atoms)) := cell_below b3c1_7 D8
  have b8c0_8 : w8.cell? ⟨w6.heap.size, 0, none⟩ = some ((.slice d4ahead x1.head.length d4chead)) := cell_below b8c0_7 D8
  have b8c1_8 : w8.cell? ⟨w6.heap.size, 1, none⟩ = some ((.slice d4aatoms x1.atoms.length d4catoms)) := cell_below b8c1_7 D8
  have d3h_8 := d3h_7.below' D8
  have d4hhead_8 := d4hhead_7.below' D8
  have d4hatoms_8 := d4hatoms_7.below' D8
  clear b3c0_7 b3c1_7 b8c0_7 b8c1_7 d3h_7 d4hhead_7 d4hatoms_7
  go_wp2_with fail
  refine (eqIntS_any _ _ l0 l0 _ _ _ (ints.below' d3h_8 ?_) (ints.below' d5h_8 ?_)).mono ?_
  · (repeat (first | exact Below.refl _ _ | refine ba ?_ | refine bdr ?_ | refine bs ?_ (by simp)))
  · (repeat (first | exact Below.refl _ _ | refine ba ?_ | refine bdr ?_ | refine bs ?_ (by simp)))
  rintro e w9 ⟨rfl, hb9⟩
  have D9 : Below w8.heap.size w8 w9 := bt (by (repeat (first | exact Below.refl _ _ | refine ba ?_ | refine bdr ?_ | refine bs ?_ (by simp)))) hb9
  have B9 : Below w.heap.size w w9 := bt B8 D9
  have b3c0_9 : w9.cell? ⟨w.heap.size, 0, none⟩ = some ((.slice p1head x1.head.length q1head)) := cell_below b3c0_8 D9
  have b3c1_9 : w9.cell? ⟨w.heap.size, 1, none⟩ = some ((.slice p1atoms x1.atoms.length q1atoms)) := cell_below b3c1_8 D9
  have b8c0_9 : w9.cell? ⟨w6.heap.size, 0, none⟩ = some ((.slice d4ahead x1.head.length d4chead)) := cell_below b8c0_8 D9
  have b8c1_9 : w9.cell? ⟨w6.heap.size, 1, none⟩ = some ((.slice d4aatoms x1.atoms.length d4catoms)) := cell_below b8c1_8 D9
  have d4hhead_9 := d4hhead_8.below' D9
  have d4hatoms_9 := d4hatoms_8.below' D9
  clear b3c0_8 b3c1_8 b8c0_8 b8c1_8 d3h_8 d4hhead_8 d4hatoms_8 d5h_8
  go_wp2_with fail
  go_region_held3 (fun w' => w'.cell? ⟨w6.heap.size, 0, none⟩ = some ((.slice d4ahead x1.head.length d4chead)) ∧ w'.cell? ⟨w6.heap.size, 1, none⟩ = some ((.slice d4aatoms x1.atoms.length d4catoms)) ∧ w'.cell? ⟨w.heap.size, 0, none⟩ = some ((.slice p1head x1.head.length q1head)) ∧ w'.cell? ⟨w.heap.size, 1, none⟩ = some ((.slice p1atoms x1.atoms.length q1atoms))) (first | exact ⟨b8c0_9, b8c1_9, b3c0_9, b3c1_9⟩ | exact ⟨b8c0_10, b8c1_10, b3c0_10, b3c1_10⟩ | exact ⟨b8c0_11, b8c1_11, b3c0_11, b3c1_11⟩)
    (first
      | (go_at_call 55
         with_reducible refine (toQuery_any x1 _ _ _ (intsV.below' h1head ?_) nx1head (atomsV.below' h1atoms ?_) nx1atoms nx1atomsi).mono ?_
         · (repeat (first | exact B9 | refine ba ?_ | refine bdr ?_ | refine bs ?_ (by simp)))
         · (repeat (first | exact B9 | refine ba ?_ | refine bdr ?_ | refine bs ?_ (by simp)))
         rintro e w10 ⟨d6vhead, d6vatoms, d6fhead, d6fatoms, rfl, d6hhead_10, d6hatoms_10, d6fr, hb10⟩
         obtain ⟨d6ahead, d6chead, rfl⟩ := slR.form d6hhead_10
         obtain ⟨d6aatoms, d6catoms, rfl⟩ := slR.form d6hatoms_10
         have D10 : Below w9.heap.size w9 w10 := bt (by (repeat (first | exact Below.refl _ _ | refine ba ?_ | refine bdr ?_ | refine bs ?_ (by simp)))) hb10
         have B10 : Below w.heap.size w w10 := bt B9 D10
         have b3c0_10 : w10.cell? ⟨w.heap.size, 0, none⟩ = some ((.slice p1head x1.head.length q1head)) := cell_below b3c0_9 D10
         have b3c1_10 : w10.cell? ⟨w.heap.size, 1, none⟩ = some ((.slice p1atoms x1.atoms.length q1atoms)) := cell_below b3c1_9 D10
         have b8c0_10 : w10.cell? ⟨w6.heap.size, 0, none⟩ = some ((.slice d4ahead x1.head.length d4chead)) := cell_below b8c0_9 D10
         have b8c1_10 : w10.cell? ⟨w6.heap.size, 1, none⟩ = some ((.slice d4aatoms x1.atoms.length d4catoms)) := cell_below b8c1_9 D10
         have d4hhead_10 := d4hhead_9.below' D10
         have d4hatoms_10 := d4hatoms_9.below' D10)
      | (go_at_call 58
         with_reducible refine (eqQuery_any x1 x1 _ _ _ _ _ _ _ _ _ (ints.below' d4hhead_10 ?_) (ints.below' d6hhead_10 ?_) (atoms.below' d4hatoms_10 ?_) (atoms.below' d6hatoms_10 ?_)).mono ?_
         · (repeat (first | exact Below.refl _ _ | refine ba ?_ | refine bdr ?_ | refine bs ?_ (by simp)))
         · (repeat (first | exact Below.refl _ _ | refine ba ?_ | refine bdr ?_ | refine bs ?_ (by simp)))
         · (repeat (first | exact Below.refl _ _ | refine ba ?_ | refine bdr ?_ | refine bs ?_ (by simp)))
         · (repeat (first | exact Below.refl _ _ | refine ba ?_ | refine bdr ?_ | refine bs ?_ (by simp)))
         rintro e w11 ⟨rfl, hb11⟩
         have D11 : Below w10.heap.size w10 w11 := bt (by (repeat (first | exact Below.refl _ _ | refine ba ?_ | refine bdr ?_ | refine bs ?_ (by simp)))) hb11
         have B11 : Below w.heap.size w w11 := bt B10 D11
         have b3c0_11 : w11.cell? ⟨w.heap.size, 0, none⟩ = some ((.slice p1head x1.head.length q1head)) := cell_below b3c0_10 D11
         have b3c1_11 : w11.cell? ⟨w.heap.size, 1, none⟩ = some ((.slice p1atoms x1.atoms.length q1atoms)) := cell_below b3c1_10 D11
         have b8c0_11 : w11.cell? ⟨w6.heap.size, 0, none⟩ = some ((.slice d4ahead x1.head.length d4chead)) := cell_below b8c0_10 D11
         have b8c1_11 : w11.cell? ⟨w6.heap.size, 1, none⟩ = some ((.slice d4aatoms x1.atoms.length d4catoms)) := cell_below b8c1_10 D11))
  clear b3c0_9 b3c1_9 b8c0_9 b8c1_9 d4hhead_9 d4hatoms_9 b3c0_10 b3c1_10 b8c0_10 b8c1_10 d4hhead_10 d4hatoms_10 d6hhead_10 d6hatoms_10
  go_wp2
  go_ret
  exact ⟨rfl, B11⟩
end Go.Proofs.Ytinmiekbidfblaa
