/- The walk of the law FnExactCanCall: it returns true, whatever the input. -/
import Derived.Test.YtkhihnoeapfaaaaCanCall
import Derived.Test.YtkhihnoeapfaaaaFacts0
namespace Go.Proofs.Ytkhihnoeapfaaaa
open Go.RowKit
set_option linter.unusedVariables false
set_option linter.unusedSimpArgs false
set_option maxRecDepth 100000 in
set_option maxHeartbeats 8000000 in
theorem fnExactCanCall_walk (cs0 : List Value) (x0 : MethD) (cs1 : List Value) (x1 : AtomD) (v2 : Value) (l2 : List Int) (w : World) (g0 : methW w cs0 x0) (g1 : atomW w cs1 x1) (g2 : intsV w v2 l2)  :
    Calls Try.prog 13 #[.agg cs0.toArray, .agg cs1.toArray, v2] w fun e w' => e = .returned (.bool true) ∧ Below w.heap.size w w' := by
  obtain ⟨v0inputs, rfl, i0rel, i0limit, i0cost, i0quota, h0inputs⟩ := g0
  obtain ⟨p0inputs, q0inputs, rfl⟩ := slW.form h0inputs
  obtain ⟨v1terms, rfl, i1rel, h1terms⟩ := g1
  obtain ⟨p1terms, q1terms, rfl⟩ := slW.form h1terms
  obtain ⟨p2, q2, rfl⟩ := slW.form g2
  have b3c0_0 : ∀ (o1 : Obj), ((w.alloc (.cells #[.int .i64 x0.rel, (.slice p0inputs x0.inputs.length q0inputs), .int .i64 x0.limit, .int .i64 x0.cost, .int .i64 x0.quota] 68)).alloc o1).cell? ⟨w.heap.size, 0, none⟩ = some (.int .i64 x0.rel) := fun o1 => cell_al (cell_new w _ _ 0 _ rfl) o1
  have b3c1_0 : ∀ (o1 : Obj), ((w.alloc (.cells #[.int .i64 x0.rel, (.slice p0inputs x0.inputs.length q0inputs), .int .i64 x0.limit, .int .i64 x0.cost, .int .i64 x0.quota] 68)).alloc o1).cell? ⟨w.heap.size, 1, none⟩ = some ((.slice p0inputs x0.inputs.length q0inputs)) := fun o1 => cell_al (cell_new w _ _ 1 _ rfl) o1
  have b3c2_0 : ∀ (o1 : Obj), ((w.alloc (.cells #[.int .i64 x0.rel, (.slice p0inputs x0.inputs.length q0inputs), .int .i64 x0.limit, .int .i64 x0.cost, .int .i64 x0.quota] 68)).alloc o1).cell? ⟨w.heap.size, 2, none⟩ = some (.int .i64 x0.limit) := fun o1 => cell_al (cell_new w _ _ 2 _ rfl) o1
  have b3c3_0 : ∀ (o1 : Obj), ((w.alloc (.cells #[.int .i64 x0.rel, (.slice p0inputs x0.inputs.length q0inputs), .int .i64 x0.limit, .int .i64 x0.cost, .int .i64 x0.quota] 68)).alloc o1).cell? ⟨w.heap.size, 3, none⟩ = some (.int .i64 x0.cost) := fun o1 => cell_al (cell_new w _ _ 3 _ rfl) o1
  have b3c4_0 : ∀ (o1 : Obj), ((w.alloc (.cells #[.int .i64 x0.rel, (.slice p0inputs x0.inputs.length q0inputs), .int .i64 x0.limit, .int .i64 x0.cost, .int .i64 x0.quota] 68)).alloc o1).cell? ⟨w.heap.size, 4, none⟩ = some (.int .i64 x0.quota) := fun o1 => cell_al (cell_new w _ _ 4 _ rfl) o1
  have b4c0_0 : ∀ (o0 : Obj), ((w.alloc o0).alloc (.cells #[.int .i64 x1.rel, (.slice p1terms x1.terms.length q1terms)] 49)).cell? ⟨w.heap.size + 1, 0, none⟩ = some (.int .i64 x1.rel) := fun o0 => cell_at (w.alloc o0) _ (by simp) _ _ 0 _ rfl
  have b4c1_0 : ∀ (o0 : Obj), ((w.alloc o0).alloc (.cells #[.int .i64 x1.rel, (.slice p1terms x1.terms.length q1terms)] 49)).cell? ⟨w.heap.size + 1, 1, none⟩ = some ((.slice p1terms x1.terms.length q1terms)) := fun o0 => cell_at (w.alloc o0) _ (by simp) _ _ 1 _ rfl
  by_cases n2 : l2.length ≤ 1048576
  case neg =>
    go_enter Try.func13, Try.ntmps13
    go_wp2
    go_ret
    exact ⟨rfl, by (repeat (first | exact Below.refl _ _ | refine ba ?_ | refine bdr ?_ | refine bs ?_ (by simp)))⟩
  have rr : (canCallB x0 x1 l2 != canCallB x0 x1 l2) = false := by simp
  have rd0 : decide (x0 = x0) = true := by simp
  have rd1 : decide (x1 = x1) = true := by simp
  have rd2 : decide (l2 = l2) = true := by simp
  go_enter Try.func13, Try.ntmps13
  go_wp2_with fail
  refine (szMethod_any x0 _ (1048576) _ (intsV.below' h0inputs ?_) ⟨by omega, by omega⟩).mono ?_
  · (repeat (first | exact Below.refl _ _ | refine ba ?_ | refine bdr ?_ | refine bs ?_ (by simp)))
  rintro e w1 ⟨rfl, hb1⟩
  have D1 : Below w.heap.size w w1 := bt (by (repeat (first | exact Below.refl _ _ | refine ba ?_ | refine bdr ?_ | refine bs ?_ (by simp)))) hb1
  have B1 : Below w.heap.size w w1 := D1
  have b3c0_1 : w1.cell? ⟨w.heap.size, 0, none⟩ = some (.int .i64 x0.rel) := cell_below (b3c0_0 _) hb1
  have b3c1_1 : w1.cell? ⟨w.heap.size, 1, none⟩ = some ((.slice p0inputs x0.inputs.length q0inputs)) := cell_below (b3c1_0 _) hb1
  have b3c2_1 : w1.cell? ⟨w.heap.size, 2, none⟩ = some (.int .i64 x0.limit) := cell_below (b3c2_0 _) hb1
  have b3c3_1 : w1.cell? ⟨w.heap.size, 3, none⟩ = some (.int .i64 x0.cost) := cell_below (b3c3_0 _) hb1
  have b3c4_1 : w1.cell? ⟨w.heap.size, 4, none⟩ = some (.int .i64 x0.quota) := cell_below (b3c4_0 _) hb1
  have b4c0_1 : w1.cell? ⟨w.heap.size + 1, 0, none⟩ = some (.int .i64 x1.rel) := cell_below (b4c0_0 _) hb1
  have b4c1_1 : w1.cell? ⟨w.heap.size + 1, 1, none⟩ = some ((.slice p1terms x1.terms.length q1terms)) := cell_below (b4c1_0 _) hb1
  clear b3c0_0 b3c1_0 b3c2_0 b3c3_0 b3c4_0 b4c0_0 b4c1_0
  rcases left_cases (bulkMethod x0) (1048576) (by omega) with ⟨t0, t1⟩ | ⟨t0, t1⟩
  case inl =>
    have T1 := Lib.hid t1; clear t1
    go_wp2
    go_ret
    exact ⟨rfl, B1⟩
  have T1 := Lib.hid t1; clear t1
  obtain ⟨qx0, ex01, ex02⟩ := left_bd t0 (by omega) (by omega)
  clear t0
  have nx0inputs : x0.inputs.length ≤ 1048576 := by have h9 := qx0; unfold bulkMethod at h9; omega
  go_wp2_with fail
  refine (szAtom_any x1 _ (left (bulkMethod x0) (1048576)) _ (intsV.below' h1terms ?_) ⟨by omega, by omega⟩).mono ?_
  · (repeat (first | exact B1 | refine ba ?_ | refine bdr ?_ | refine bs ?_ (by simp)))
  rintro e w2 ⟨rfl, hb2⟩
  have D2 : Below w1.heap.size w1 w2 := bt (by (repeat (first | exact Below.refl _ _ | refine ba ?_ | refine bdr ?_ | refine bs ?_ (by simp)))) hb2
  have B2 : Below w.heap.size w w2 := bt B1 D2
  have b3c0_2 : w2.cell? ⟨w.heap.size, 0, none⟩ = some (.int .i64 x0.rel) := cell_below b3c0_1 D2
  have b3c1_2 : w2.cell? ⟨w.heap.size, 1, none⟩ = some ((.slice p0inputs x0.inputs.length q0inputs)) := cell_below b3c1_1 D2
  have b3c2_2 : w2.cell? ⟨w.heap.size, 2, none⟩ = some (.int .i64 x0.limit) := cell_below b3c2_1 D2
  have b3c3_2 : w2.cell? ⟨w.heap.size, 3, none⟩ = some (.int .i64 x0.cost) := cell_below b3c3_1 D2
  have b3c4_2 : w2.cell? ⟨w.heap.size, 4, none⟩ = some (.int .i64 x0.quota) := cell_below b3c4_1 D2
  have b4c0_2 : w2.cell? ⟨w.heap.size + 1, 0, none⟩ = some (.int .i64 x1.rel) := cell_below b4c0_1 D2
  have b4c1_2 : w2.cell? ⟨w.heap.size + 1, 1, none⟩ = some ((.slice p1terms x1.terms.length q1terms)) := cell_below b4c1_1 D2
  clear b3c0_1 b3c1_1 b3c2_1 b3c3_1 b3c4_1 b4c0_1 b4c1_1
  rcases left_cases (bulkAtom x1) (left (bulkMethod x0) (1048576)) (by omega) with ⟨t0, t1⟩ | ⟨t0, t1⟩
  case inl =>
    have T1 := Lib.hid t1; clear t1
    go_wp2
    go_ret
    exact ⟨rfl, B2⟩
  have T2 := Lib.hid t1; clear t1
  obtain ⟨qx1, ex11, ex12⟩ := left_bd t0 (by omega) (by omega)
  clear t0
  have nx1terms : x1.terms.length ≤ 1048576 := by have h9 := qx1; unfold bulkAtom at h9; omega
  go_wp2_with fail
  go_region_held3 (fun w' => w'.cell? ⟨w.heap.size, 0, none⟩ = some (.int .i64 x0.rel) ∧ w'.cell? ⟨w.heap.size, 1, none⟩ = some ((.slice p0inputs x0.inputs.length q0inputs)) ∧ w'.cell? ⟨w.heap.size, 2, none⟩ = some (.int .i64 x0.limit) ∧ w'.cell? ⟨w.heap.size, 3, none⟩ = some (.int .i64 x0.cost) ∧ w'.cell? ⟨w.heap.size, 4, none⟩ = some (.int .i64 x0.quota) ∧ w'.cell? ⟨w.heap.size + 1, 0, none⟩ = some (.int .i64 x1.rel) ∧ w'.cell? ⟨w.heap.size + 1, 1, none⟩ = some ((.slice p1terms x1.terms.length q1terms))) (first | exact ⟨b3c0_2, b3c1_2, b3c2_2, b3c3_2, b3c4_2, b4c0_2, b4c1_2⟩ | exact ⟨b3c0_3, b3c1_3, b3c2_3, b3c3_3, b3c4_3, b4c0_3, b4c1_3⟩ | exact ⟨b3c0_4, b3c1_4, b3c2_4, b3c3_4, b3c4_4, b4c0_4, b4c1_4⟩ | exact ⟨b3c0_5, b3c1_5, b3c2_5, b3c3_5, b3c4_5, b4c0_5, b4c1_5⟩ | exact ⟨b3c0_6, b3c1_6, b3c2_6, b3c3_6, b3c4_6, b4c0_6, b4c1_6⟩)
    (first
      | (go_at_call 70
         with_reducible refine (toMethod_any x0 _ _ (intsV.below' h0inputs ?_) nx0inputs).mono ?_
         · (repeat (first | exact B2 | refine ba ?_ | refine bdr ?_ | refine bs ?_ (by simp)))
         rintro e w3 ⟨d1vinputs, d1finputs, rfl, d1hinputs_3, d1fr, hb3⟩
         obtain ⟨d1ainputs, d1cinputs, rfl⟩ := slR.form d1hinputs_3
         have D3 : Below w2.heap.size w2 w3 := bt (by (repeat (first | exact Below.refl _ _ | refine ba ?_ | refine bdr ?_ | refine bs ?_ (by simp)))) hb3
         have B3 : Below w.heap.size w w3 := bt B2 D3
         have b3c0_3 : w3.cell? ⟨w.heap.size, 0, none⟩ = some (.int .i64 x0.rel) := cell_below b3c0_2 D3
         have b3c1_3 : w3.cell? ⟨w.heap.size, 1, none⟩ = some ((.slice p0inputs x0.inputs.length q0inputs)) := cell_below b3c1_2 D3
         have b3c2_3 : w3.cell? ⟨w.heap.size, 2, none⟩ = some (.int .i64 x0.limit) := cell_below b3c2_2 D3
         have b3c3_3 : w3.cell? ⟨w.heap.size, 3, none⟩ = some (.int .i64 x0.cost) := cell_below b3c3_2 D3
         have b3c4_3 : w3.cell? ⟨w.heap.size, 4, none⟩ = some (.int .i64 x0.quota) := cell_below b3c4_2 D3
         have b4c0_3 : w3.cell? ⟨w.heap.size + 1, 0, none⟩ = some (.int .i64 x1.rel) := cell_below b4c0_2 D3
         have b4c1_3 : w3.cell? ⟨w.heap.size + 1, 1, none⟩ = some ((.slice p1terms x1.terms.length q1terms)) := cell_below b4c1_2 D3)
      | (go_at_call 55
         with_reducible refine (toAtom_any x1 _ _ (intsV.below' h1terms ?_) nx1terms).mono ?_
         · (repeat (first | exact B3 | refine ba ?_ | refine bdr ?_ | refine bs ?_ (by simp)))
         rintro e w4 ⟨d2vterms, d2fterms, rfl, d2hterms_4, d2fr, hb4⟩
         obtain ⟨d2aterms, d2cterms, rfl⟩ := slR.form d2hterms_4
         have D4 : Below w3.heap.size w3 w4 := bt (by (repeat (first | exact Below.refl _ _ | refine ba ?_ | refine bdr ?_ | refine bs ?_ (by simp)))) hb4
         have B4 : Below w.heap.size w w4 := bt B3 D4
         have b3c0_4 : w4.cell? ⟨w.heap.size, 0, none⟩ = some (.int .i64 x0.rel) := cell_below b3c0_3 D4
         have b3c1_4 : w4.cell? ⟨w.heap.size, 1, none⟩ = some ((.slice p0inputs x0.inputs.length q0inputs)) := cell_below b3c1_3 D4
         have b3c2_4 : w4.cell? ⟨w.heap.size, 2, none⟩ = some (.int .i64 x0.limit) := cell_below b3c2_3 D4
         have b3c3_4 : w4.cell? ⟨w.heap.size, 3, none⟩ = some (.int .i64 x0.cost) := cell_below b3c3_3 D4
         have b3c4_4 : w4.cell? ⟨w.heap.size, 4, none⟩ = some (.int .i64 x0.quota) := cell_below b3c4_3 D4
         have b4c0_4 : w4.cell? ⟨w.heap.size + 1, 0, none⟩ = some (.int .i64 x1.rel) := cell_below b4c0_3 D4
         have b4c1_4 : w4.cell? ⟨w.heap.size + 1, 1, none⟩ = some ((.slice p1terms x1.terms.length q1terms)) := cell_below b4c1_3 D4
         have d1hinputs_4 := d1hinputs_3.below' D4)
      | (go_at_call 35
         with_reducible refine (toIntS_any _ l2 _ (intsV.below' g2 ?_) n2).mono ?_
         · (repeat (first | exact B4 | refine ba ?_ | refine bdr ?_ | refine bs ?_ (by simp)))
         rintro e w5 ⟨d3v, d3f, rfl, d3h_5, d3fr, hb5⟩
         obtain ⟨d3a, d3c, rfl⟩ := slR.form d3h_5
         have D5 : Below w4.heap.size w4 w5 := bt (by (repeat (first | exact Below.refl _ _ | refine ba ?_ | refine bdr ?_ | refine bs ?_ (by simp)))) hb5
         have B5 : Below w.heap.size w w5 := bt B4 D5
         have b3c0_5 : w5.cell? ⟨w.heap.size, 0, none⟩ = some (.int .i64 x0.rel) := cell_below b3c0_4 D5
         have b3c1_5 : w5.cell? ⟨w.heap.size, 1, none⟩ = some ((.slice p0inputs x0.inputs.length q0inputs)) := cell_below b3c1_4 D5
         have b3c2_5 : w5.cell? ⟨w.heap.size, 2, none⟩ = some (.int .i64 x0.limit) := cell_below b3c2_4 D5
         have b3c3_5 : w5.cell? ⟨w.heap.size, 3, none⟩ = some (.int .i64 x0.cost) := cell_below b3c3_4 D5
         have b3c4_5 : w5.cell? ⟨w.heap.size, 4, none⟩ = some (.int .i64 x0.quota) := cell_below b3c4_4 D5
         have b4c0_5 : w5.cell? ⟨w.heap.size + 1, 0, none⟩ = some (.int .i64 x1.rel) := cell_below b4c0_4 D5
         have b4c1_5 : w5.cell? ⟨w.heap.size + 1, 1, none⟩ = some ((.slice p1terms x1.terms.length q1terms)) := cell_below b4c1_4 D5
         have d1hinputs_5 := d1hinputs_4.below' D5
         have d2hterms_5 := d2hterms_4.below' D5)
      | (go_at_call 77
         with_reducible refine (specCanCall_any x0 x1 _ _ _ _ _ l2 _ _ (ints.below' d1hinputs_5 ?_) (ints.below' d2hterms_5 ?_) (ints.below' d3h_5 ?_)).mono ?_
         · (repeat (first | exact Below.refl _ _ | refine ba ?_ | refine bdr ?_ | refine bs ?_ (by simp)))
         · (repeat (first | exact Below.refl _ _ | refine ba ?_ | refine bdr ?_ | refine bs ?_ (by simp)))
         · (repeat (first | exact Below.refl _ _ | refine ba ?_ | refine bdr ?_ | refine bs ?_ (by simp)))
         rintro e w6 ⟨rfl, hb6⟩
         have D6 : Below w5.heap.size w5 w6 := bt (by (repeat (first | exact Below.refl _ _ | refine ba ?_ | refine bdr ?_ | refine bs ?_ (by simp)))) hb6
         have B6 : Below w.heap.size w w6 := bt B5 D6
         have b3c0_6 : w6.cell? ⟨w.heap.size, 0, none⟩ = some (.int .i64 x0.rel) := cell_below b3c0_5 D6
         have b3c1_6 : w6.cell? ⟨w.heap.size, 1, none⟩ = some ((.slice p0inputs x0.inputs.length q0inputs)) := cell_below b3c1_5 D6
         have b3c2_6 : w6.cell? ⟨w.heap.size, 2, none⟩ = some (.int .i64 x0.limit) := cell_below b3c2_5 D6
         have b3c3_6 : w6.cell? ⟨w.heap.size, 3, none⟩ = some (.int .i64 x0.cost) := cell_below b3c3_5 D6
         have b3c4_6 : w6.cell? ⟨w.heap.size, 4, none⟩ = some (.int .i64 x0.quota) := cell_below b3c4_5 D6
         have b4c0_6 : w6.cell? ⟨w.heap.size + 1, 0, none⟩ = some (.int .i64 x1.rel) := cell_below b4c0_5 D6
         have b4c1_6 : w6.cell? ⟨w.heap.size + 1, 1, none⟩ = some ((.slice p1terms x1.terms.length q1terms)) := cell_below b4c1_5 D6))
  clear b3c0_2 b3c1_2 b3c2_2 b3c3_2 b3c4_2 b4c0_2 b4c1_2 b3c0_3 b3c1_3 b3c2_3 b3c3_3 b3c4_3 b4c0_3 b4c1_3 d1hinputs_3 b3c0_4 b3c1_4 b3c2_4 b3c3_4 b3c4_4 b4c0_4 b4c1_4 d1hinputs_4 d2hterms_4 b3c0_5 b3c1_5 b3c2_5 b3c3_5 b3c4_5 b4c0_5 b4c1_5 d1hinputs_5 d2hterms_5 d3h_5
  go_wp2_with fail
  refine (toMethod_any x0 _ _ (intsV.below' h0inputs ?_) nx0inputs).mono ?_
  · (repeat (first | exact B6 | refine ba ?_ | refine bdr ?_ | refine bs ?_ (by simp)))
  rintro e w7 ⟨d4vinputs, d4finputs, rfl, d4hinputs_7, d4fr, hb7⟩
  obtain ⟨d4ainputs, d4cinputs, rfl⟩ := slR.form d4hinputs_7
  have D7 : Below w6.heap.size w6 w7 := bt (by (repeat (first | exact Below.refl _ _ | refine ba ?_ | refine bdr ?_ | refine bs ?_ (by simp)))) hb7
  have B7 : Below w.heap.size w w7 := bt B6 D7
  have b3c0_7 : w7.cell? ⟨w.heap.size, 0, none⟩ = some (.int .i64 x0.rel) := cell_below b3c0_6 D7
  have b3c1_7 : w7.cell? ⟨w.heap.size, 1, none⟩ = some ((.slice p0inputs x0.inputs.length q0inputs)) := cell_below b3c1_6 D7
  have b3c2_7 : w7.cell? ⟨w.heap.size, 2, none⟩ = some (.int .i64 x0.limit) := cell_below b3c2_6 D7
  have b3c3_7 : w7.cell? ⟨w.heap.size, 3, none⟩ = some (.int .i64 x0.cost) := cell_below b3c3_6 D7
  have b3c4_7 : w7.cell? ⟨w.heap.size, 4, none⟩ = some (.int .i64 x0.quota) := cell_below b3c4_6 D7
  have b4c0_7 : w7.cell? ⟨w.heap.size + 1, 0, none⟩ = some (.int .i64 x1.rel) := cell_below b4c0_6 D7
  have b4c1_7 : w7.cell? ⟨w.heap.size + 1, 1, none⟩ = some ((.slice p1terms x1.terms.length q1terms)) := cell_below b4c1_6 D7
  clear b3c0_6 b3c1_6 b3c2_6 b3c3_6 b3c4_6 b4c0_6 b4c1_6
  have b3c0_7n := fun o => cell_al b3c0_7 o
  have b3c1_7n := fun o => cell_al b3c1_7 o
  have b3c2_7n := fun o => cell_al b3c2_7 o
  have b3c3_7n := fun o => cell_al b3c3_7 o
  have b3c4_7n := fun o => cell_al b3c4_7 o
  have b4c0_7n := fun o => cell_al b4c0_7 o
  have b4c1_7n := fun o => cell_al b4c1_7 o
  go_wp2_with fail
  refine (toAtom_any x1 _ _ (intsV.below' h1terms ?_) nx1terms).mono ?_
  · (repeat (first | exact B7 | refine ba ?_ | refine bdr ?_ | refine bs ?_ (by simp)))
  rintro e w8 ⟨d5vterms, d5fterms, rfl, d5hterms_8, d5fr, hb8⟩
  obtain ⟨d5aterms, d5cterms, rfl⟩ := slR.form d5hterms_8
  have D8 : Below w7.heap.size w7 w8 := bt (by (repeat (first | exact Below.refl _ _ | refine ba ?_ | refine bdr ?_ | refine bs ?_ (by simp)))) hb8
  have B8 : Below w.heap.size w w8 := bt B7 D8
  have b3c0_8 : w8.cell? ⟨w.heap.size, 0, none⟩ = some (.int .i64 x0.rel) := cell_below b3c0_7 D8
  have b3c1_8 : w8.cell? ⟨w.heap.size, 1, none⟩ = some ((.slice p0inputs x0.inputs.length q0inputs)) := cell_below b3c1_7 D8
  have b3c2_8 : w8.cell? ⟨w.heap.size, 2, none⟩ = some (.int .i64 x0.limit) := cell_below b3c2_7 D8
  have b3c3_8 : w8.cell? ⟨w.heap.size, 3, none⟩ = some (.int .i64 x0.cost) := cell_below b3c3_7 D8
  have b3c4_8 : w8.cell? ⟨w.heap.size, 4, none⟩ = some (.int .i64 x0.quota) := cell_below b3c4_7 D8
  have b4c0_8 : w8.cell? ⟨w.heap.size + 1, 0, none⟩ = some (.int .i64 x1.rel) := cell_below b4c0_7 D8
  have b4c1_8 : w8.cell? ⟨w.heap.size + 1, 1, none⟩ = some ((.slice p1terms x1.terms.length q1terms)) := cell_below b4c1_7 D8
  have b9c0_8 : w8.cell? ⟨w7.heap.size, 0, none⟩ = some (.int .i64 x0.rel) := cell_below (cell_new _ _ _ 0 _ rfl) hb8
  have b9c1_8 : w8.cell? ⟨w7.heap.size, 1, none⟩ = some ((.slice d4ainputs x0.inputs.length d4cinputs)) := cell_below (cell_new _ _ _ 1 _ rfl) hb8
  have b9c2_8 : w8.cell? ⟨w7.heap.size, 2, none⟩ = some (.int .i64 x0.limit) := cell_below (cell_new _ _ _ 2 _ rfl) hb8
  have b9c3_8 : w8.cell? ⟨w7.heap.size, 3, none⟩ = some (.int .i64 x0.cost) := cell_below (cell_new _ _ _ 3 _ rfl) hb8
  have b9c4_8 : w8.cell? ⟨w7.heap.size, 4, none⟩ = some (.int .i64 x0.quota) := cell_below (cell_new _ _ _ 4 _ rfl) hb8
  have d4hinputs_8 := d4hinputs_7.below' D8
  clear b3c0_7 b3c1_7 b3c2_7 b3c3_7 b3c4_7 b4c0_7 b4c1_7 d4hinputs_7 b3c0_7n b3c1_7n b3c2_7n b3c3_7n b3c4_7n b4c0_7n b4c1_7n
  have b3c0_8n := fun o => cell_al b3c0_8 o
  have b3c1_8n := fun o => cell_al b3c1_8 o
  have b3c2_8n := fun o => cell_al b3c2_8 o
  have b3c3_8n := fun o => cell_al b3c3_8 o
  have b3c4_8n := fun o => cell_al b3c4_8 o
  have b4c0_8n := fun o => cell_al b4c0_8 o
  have b4c1_8n := fun o => cell_al b4c1_8 o
  have b9c0_8n := fun o => cell_al b9c0_8 o
  have b9c1_8n := fun o => cell_al b9c1_8 o
  have b9c2_8n := fun o => cell_al b9c2_8 o
  have b9c3_8n := fun o => cell_al b9c3_8 o
  have b9c4_8n := fun o => cell_al b9c4_8 o
  go_wp2_with fail
  refine (toIntS_any _ l2 _ (intsV.below' g2 ?_) n2).mono ?_
  · (repeat (first | exact B8 | refine ba ?_ | refine bdr ?_ | refine bs ?_ (by simp)))
  rintro e w9 ⟨d6v, d6f, rfl, d6h_9, d6fr, hb9⟩
  obtain ⟨d6a, d6c, rfl⟩ := slR.form d6h_9
  have D9 : Below w8.heap.size w8 w9 := bt (by (repeat (first | exact Below.refl _ _ | refine ba ?_ | refine bdr ?_ | refine bs ?_ (by simp)))) hb9
  have B9 : Below w.heap.size w w9 := bt B8 D9
  have b3c0_9 : w9.cell? ⟨w.heap.size, 0, none⟩ = some (.int .i64 x0.rel) := cell_below b3c0_8 D9
  have b3c1_9 : w9.cell? ⟨w.heap.size, 1, none⟩ = some ((.slice p0inputs x0.inputs.length q0inputs)) := cell_below b3c1_8 D9
  have b3c2_9 : w9.cell? ⟨w.heap.size, 2, none⟩ = some (.int .i64 x0.limit) := cell_below b3c2_8 D9
  have b3c3_9 : w9.cell? ⟨w.heap.size, 3, none⟩ = some (.int .i64 x0.cost) := cell_below b3c3_8 D9
  have b3c4_9 : w9.cell? ⟨w.heap.size, 4, none⟩ = some (.int .i64 x0.quota) := cell_below b3c4_8 D9
  have b4c0_9 : w9.cell? ⟨w.heap.size + 1, 0, none⟩ = some (.int .i64 x1.rel) := cell_below b4c0_8 D9
  have b4c1_9 : w9.cell? ⟨w.heap.size + 1, 1, none⟩ = some ((.slice p1terms x1.terms.length q1terms)) := cell_below b4c1_8 D9
  have b9c0_9 : w9.cell? ⟨w7.heap.size, 0, none⟩ = some (.int .i64 x0.rel) := cell_below b9c0_8 D9
  have b9c1_9 : w9.cell? ⟨w7.heap.size, 1, none⟩ = some ((.slice d4ainputs x0.inputs.length d4cinputs)) := cell_below b9c1_8 D9
  have b9c2_9 : w9.cell? ⟨w7.heap.size, 2, none⟩ = some (.int .i64 x0.limit) := cell_below b9c2_8 D9
  have b9c3_9 : w9.cell? ⟨w7.heap.size, 3, none⟩ = some (.int .i64 x0.cost) := cell_below b9c3_8 D9
  have b9c4_9 : w9.cell? ⟨w7.heap.size, 4, none⟩ = some (.int .i64 x0.quota) := cell_below b9c4_8 D9
  have b10c0_9 : w9.cell? ⟨w8.heap.size, 0, none⟩ = some (.int .i64 x1.rel) := cell_below (cell_new _ _ _ 0 _ rfl) hb9
  have b10c1_9 : w9.cell? ⟨w8.heap.size, 1, none⟩ = some ((.slice d5aterms x1.terms.length d5cterms)) := cell_below (cell_new _ _ _ 1 _ rfl) hb9
  have d4hinputs_9 := d4hinputs_8.below' D9
  have d5hterms_9 := d5hterms_8.below' D9
  clear b3c0_8 b3c1_8 b3c2_8 b3c3_8 b3c4_8 b4c0_8 b4c1_8 b9c0_8 b9c1_8 b9c2_8 b9c3_8 b9c4_8 d4hinputs_8 d5hterms_8 b3c0_8n b3c1_8n b3c2_8n b3c3_8n b3c4_8n b4c0_8n b4c1_8n b9c0_8n b9c1_8n b9c2_8n b9c3_8n b9c4_8n
  go_wp2_with fail
  refine (implCanCall_any x0 x1 _ _ _ _ _ l2 _ _ (ints.below' d4hinputs_9 ?_) (ints.below' d5hterms_9 ?_) (ints.below' d6h_9 ?_)).mono ?_
  · (repeat (first | exact Below.refl _ _ | refine ba ?_ | refine bdr ?_ | refine bs ?_ (by simp)))
  · (repeat (first | exact Below.refl _ _ | refine ba ?_ | refine bdr ?_ | refine bs ?_ (by simp)))
  · (repeat (first | exact Below.refl _ _ | refine ba ?_ | refine bdr ?_ | refine bs ?_ (by simp)))
  rintro e w10 ⟨rfl, hb10⟩
  have D10 : Below w9.heap.size w9 w10 := bt (by (repeat (first | exact Below.refl _ _ | refine ba ?_ | refine bdr ?_ | refine bs ?_ (by simp)))) hb10
  have B10 : Below w.heap.size w w10 := bt B9 D10
  have b3c0_10 : w10.cell? ⟨w.heap.size, 0, none⟩ = some (.int .i64 x0.rel) := cell_below b3c0_9 D10
  have b3c1_10 : w10.cell? ⟨w.heap.size, 1, none⟩ = some ((.slice p0inputs x0.inputs.length q0inputs)) := cell_below b3c1_9 D10
  have b3c2_10 : w10.cell? ⟨w.heap.size, 2, none⟩ = some (.int .i64 x0.limit) := cell_below b3c2_9 D10
  have b3c3_10 : w10.cell? ⟨w.heap.size, 3, none⟩ = some (.int .i64 x0.cost) := cell_below b3c3_9 D10
  have b3c4_10 : w10.cell? ⟨w.heap.size, 4, none⟩ = some (.int .i64 x0.quota) := cell_below b3c4_9 D10
  have b4c0_10 : w10.cell? ⟨w.heap.size + 1, 0, none⟩ = some (.int .i64 x1.rel) := cell_below b4c0_9 D10
  have b4c1_10 : w10.cell? ⟨w.heap.size + 1, 1, none⟩ = some ((.slice p1terms x1.terms.length q1terms)) := cell_below b4c1_9 D10
  have b9c0_10 : w10.cell? ⟨w7.heap.size, 0, none⟩ = some (.int .i64 x0.rel) := cell_below b9c0_9 D10
  have b9c1_10 : w10.cell? ⟨w7.heap.size, 1, none⟩ = some ((.slice d4ainputs x0.inputs.length d4cinputs)) := cell_below b9c1_9 D10
  have b9c2_10 : w10.cell? ⟨w7.heap.size, 2, none⟩ = some (.int .i64 x0.limit) := cell_below b9c2_9 D10
  have b9c3_10 : w10.cell? ⟨w7.heap.size, 3, none⟩ = some (.int .i64 x0.cost) := cell_below b9c3_9 D10
  have b9c4_10 : w10.cell? ⟨w7.heap.size, 4, none⟩ = some (.int .i64 x0.quota) := cell_below b9c4_9 D10
  have b10c0_10 : w10.cell? ⟨w8.heap.size, 0, none⟩ = some (.int .i64 x1.rel) := cell_below b10c0_9 D10
  have b10c1_10 : w10.cell? ⟨w8.heap.size, 1, none⟩ = some ((.slice d5aterms x1.terms.length d5cterms)) := cell_below b10c1_9 D10
  have d4hinputs_10 := d4hinputs_9.below' D10
  have d5hterms_10 := d5hterms_9.below' D10
  have d6h_10 := d6h_9.below' D10
  clear b3c0_9 b3c1_9 b3c2_9 b3c3_9 b3c4_9 b4c0_9 b4c1_9 b9c0_9 b9c1_9 b9c2_9 b9c3_9 b9c4_9 b10c0_9 b10c1_9 d4hinputs_9 d5hterms_9 d6h_9
  go_wp2_with fail
  go_region_held3 (fun w' => w'.cell? ⟨w7.heap.size, 0, none⟩ = some (.int .i64 x0.rel) ∧ w'.cell? ⟨w7.heap.size, 1, none⟩ = some ((.slice d4ainputs x0.inputs.length d4cinputs)) ∧ w'.cell? ⟨w7.heap.size, 2, none⟩ = some (.int .i64 x0.limit) ∧ w'.cell? ⟨w7.heap.size, 3, none⟩ = some (.int .i64 x0.cost) ∧ w'.cell? ⟨w7.heap.size, 4, none⟩ = some (.int .i64 x0.quota) ∧ w'.cell? ⟨w.heap.size, 0, none⟩ = some (.int .i64 x0.rel) ∧ w'.cell? ⟨w.heap.size, 1, none⟩ = some ((.slice p0inputs x0.inputs.length q0inputs)) ∧ w'.cell? ⟨w.heap.size, 2, none⟩ = some (.int .i64 x0.limit) ∧ w'.cell? ⟨w.heap.size, 3, none⟩ = some (.int .i64 x0.cost) ∧ w'.cell? ⟨w.heap.size, 4, none⟩ = some (.int .i64 x0.quota)) (first | exact ⟨b9c0_10, b9c1_10, b9c2_10, b9c3_10, b9c4_10, b3c0_10, b3c1_10, b3c2_10, b3c3_10, b3c4_10⟩ | exact ⟨b9c0_11, b9c1_11, b9c2_11, b9c3_11, b9c4_11, b3c0_11, b3c1_11, b3c2_11, b3c3_11, b3c4_11⟩ | exact ⟨b9c0_12, b9c1_12, b9c2_12, b9c3_12, b9c4_12, b3c0_12, b3c1_12, b3c2_12, b3c3_12, b3c4_12⟩)
    (first
      | (go_at_call 70
         with_reducible refine (toMethod_any x0 _ _ (intsV.below' h0inputs ?_) nx0inputs).mono ?_
         · (repeat (first | exact B10 | refine ba ?_ | refine bdr ?_ | refine bs ?_ (by simp)))
         rintro e w11 ⟨d7vinputs, d7finputs, rfl, d7hinputs_11, d7fr, hb11⟩
         obtain ⟨d7ainputs, d7cinputs, rfl⟩ := slR.form d7hinputs_11
         have D11 : Below w10.heap.size w10 w11 := bt (by (repeat (first | exact Below.refl _ _ | refine ba ?_ | refine bdr ?_ | refine bs ?_ (by simp)))) hb11
         have B11 : Below w.heap.size w w11 := bt B10 D11
         have b3c0_11 : w11.cell? ⟨w.heap.size, 0, none⟩ = some (.int .i64 x0.rel) := cell_below b3c0_10 D11
         have b3c1_11 : w11.cell? ⟨w.heap.size, 1, none⟩ = some ((.slice p0inputs x0.inputs.length q0inputs)) := cell_below b3c1_10 D11
         have b3c2_11 : w11.cell? ⟨w.heap.size, 2, none⟩ = some (.int .i64 x0.limit) := cell_below b3c2_10 D11
         have b3c3_11 : w11.cell? ⟨w.heap.size, 3, none⟩ = some (.int .i64 x0.cost) := cell_below b3c3_10 D11
         have b3c4_11 : w11.cell? ⟨w.heap.size, 4, none⟩ = some (.int .i64 x0.quota) := cell_below b3c4_10 D11
         have b4c0_11 : w11.cell? ⟨w.heap.size + 1, 0, none⟩ = some (.int .i64 x1.rel) := cell_below b4c0_10 D11
         have b4c1_11 : w11.cell? ⟨w.heap.size + 1, 1, none⟩ = some ((.slice p1terms x1.terms.length q1terms)) := cell_below b4c1_10 D11
         have b9c0_11 : w11.cell? ⟨w7.heap.size, 0, none⟩ = some (.int .i64 x0.rel) := cell_below b9c0_10 D11
         have b9c1_11 : w11.cell? ⟨w7.heap.size, 1, none⟩ = some ((.slice d4ainputs x0.inputs.length d4cinputs)) := cell_below b9c1_10 D11
         have b9c2_11 : w11.cell? ⟨w7.heap.size, 2, none⟩ = some (.int .i64 x0.limit) := cell_below b9c2_10 D11
         have b9c3_11 : w11.cell? ⟨w7.heap.size, 3, none⟩ = some (.int .i64 x0.cost) := cell_below b9c3_10 D11
         have b9c4_11 : w11.cell? ⟨w7.heap.size, 4, none⟩ = some (.int .i64 x0.quota) := cell_below b9c4_10 D11
         have b10c0_11 : w11.cell? ⟨w8.heap.size, 0, none⟩ = some (.int .i64 x1.rel) := cell_below b10c0_10 D11
         have b10c1_11 : w11.cell? ⟨w8.heap.size, 1, none⟩ = some ((.slice d5aterms x1.terms.length d5cterms)) := cell_below b10c1_10 D11
         have d4hinputs_11 := d4hinputs_10.below' D11
         have d5hterms_11 := d5hterms_10.below' D11
         have d6h_11 := d6h_10.below' D11)
      | (go_at_call 72
         with_reducible refine (eqMethod_any x0 x0 _ _ _ _ _ (ints.below' d4hinputs_11 ?_) (ints.below' d7hinputs_11 ?_)).mono ?_
         · (repeat (first | exact Below.refl _ _ | refine ba ?_ | refine bdr ?_ | refine bs ?_ (by simp)))
         · (repeat (first | exact Below.refl _ _ | refine ba ?_ | refine bdr ?_ | refine bs ?_ (by simp)))
         rintro e w12 ⟨rfl, hb12⟩
         have D12 : Below w11.heap.size w11 w12 := bt (by (repeat (first | exact Below.refl _ _ | refine ba ?_ | refine bdr ?_ | refine bs ?_ (by simp)))) hb12
         have B12 : Below w.heap.size w w12 := bt B11 D12
         have b3c0_12 : w12.cell? ⟨w.heap.size, 0, none⟩ = some (.int .i64 x0.rel) := cell_below b3c0_11 D12
         have b3c1_12 : w12.cell? ⟨w.heap.size, 1, none⟩ = some ((.slice p0inputs x0.inputs.length q0inputs)) := cell_below b3c1_11 D12
         have b3c2_12 : w12.cell? ⟨w.heap.size, 2, none⟩ = some (.int .i64 x0.limit) := cell_below b3c2_11 D12
         have b3c3_12 : w12.cell? ⟨w.heap.size, 3, none⟩ = some (.int .i64 x0.cost) := cell_below b3c3_11 D12
         have b3c4_12 : w12.cell? ⟨w.heap.size, 4, none⟩ = some (.int .i64 x0.quota) := cell_below b3c4_11 D12
         have b4c0_12 : w12.cell? ⟨w.heap.size + 1, 0, none⟩ = some (.int .i64 x1.rel) := cell_below b4c0_11 D12
         have b4c1_12 : w12.cell? ⟨w.heap.size + 1, 1, none⟩ = some ((.slice p1terms x1.terms.length q1terms)) := cell_below b4c1_11 D12
         have b9c0_12 : w12.cell? ⟨w7.heap.size, 0, none⟩ = some (.int .i64 x0.rel) := cell_below b9c0_11 D12
         have b9c1_12 : w12.cell? ⟨w7.heap.size, 1, none⟩ = some ((.slice d4ainputs x0.inputs.length d4cinputs)) := cell_below b9c1_11 D12
         have b9c2_12 : w12.cell? ⟨w7.heap.size, 2, none⟩ = some (.int .i64 x0.limit) := cell_below b9c2_11 D12
         have b9c3_12 : w12.cell? ⟨w7.heap.size, 3, none⟩ = some (.int .i64 x0.cost) := cell_below b9c3_11 D12
         have b9c4_12 : w12.cell? ⟨w7.heap.size, 4, none⟩ = some (.int .i64 x0.quota) := cell_below b9c4_11 D12
         have b10c0_12 : w12.cell? ⟨w8.heap.size, 0, none⟩ = some (.int .i64 x1.rel) := cell_below b10c0_11 D12
         have b10c1_12 : w12.cell? ⟨w8.heap.size, 1, none⟩ = some ((.slice d5aterms x1.terms.length d5cterms)) := cell_below b10c1_11 D12
         have d5hterms_12 := d5hterms_11.below' D12
         have d6h_12 := d6h_11.below' D12))
  clear b3c0_10 b3c1_10 b3c2_10 b3c3_10 b3c4_10 b4c0_10 b4c1_10 b9c0_10 b9c1_10 b9c2_10 b9c3_10 b9c4_10 b10c0_10 b10c1_10 d4hinputs_10 d5hterms_10 d6h_10 b3c0_11 b3c1_11 b3c2_11 b3c3_11 b3c4_11 b4c0_11 b4c1_11 b9c0_11 b9c1_11 b9c2_11 b9c3_11 b9c4_11 b10c0_11 b10c1_11 d4hinputs_11 d5hterms_11 d6h_11 d7hinputs_11
  go_wp2_with fail
  go_region_held3 (fun w' => w'.cell? ⟨w8.heap.size, 0, none⟩ = some (.int .i64 x1.rel) ∧ w'.cell? ⟨w8.heap.size, 1, none⟩ = some ((.slice d5aterms x1.terms.length d5cterms)) ∧ w'.cell? ⟨w.heap.size + 1, 0, none⟩ = some (.int .i64 x1.rel) ∧ w'.cell? ⟨w.heap.size + 1, 1, none⟩ = some ((.slice p1terms x1.terms.length q1terms))) (first | exact ⟨b10c0_12, b10c1_12, b4c0_12, b4c1_12⟩ | exact ⟨b10c0_13, b10c1_13, b4c0_13, b4c1_13⟩ | exact ⟨b10c0_14, b10c1_14, b4c0_14, b4c1_14⟩)
    (first
      | (go_at_call 55
         with_reducible refine (toAtom_any x1 _ _ (intsV.below' h1terms ?_) nx1terms).mono ?_
         · (repeat (first | exact B12 | refine ba ?_ | refine bdr ?_ | refine bs ?_ (by simp)))
         rintro e w13 ⟨d8vterms, d8fterms, rfl, d8hterms_13, d8fr, hb13⟩
         obtain ⟨d8aterms, d8cterms, rfl⟩ := slR.form d8hterms_13
         have D13 : Below w12.heap.size w12 w13 := bt (by (repeat (first | exact Below.refl _ _ | refine ba ?_ | refine bdr ?_ | refine bs ?_ (by simp)))) hb13
         have B13 : Below w.heap.size w w13 := bt B12 D13
         have b4c0_13 : w13.cell? ⟨w.heap.size + 1, 0, none⟩ = some (.int .i64 x1.rel) := cell_below b4c0_12 D13
         have b4c1_13 : w13.cell? ⟨w.heap.size + 1, 1, none⟩ = some ((.slice p1terms x1.terms.length q1terms)) := cell_below b4c1_12 D13
         have b10c0_13 : w13.cell? ⟨w8.heap.size, 0, none⟩ = some (.int .i64 x1.rel) := cell_below b10c0_12 D13
         have b10c1_13 : w13.cell? ⟨w8.heap.size, 1, none⟩ = some ((.slice d5aterms x1.terms.length d5cterms)) := cell_below b10c1_12 D13
         have d5hterms_13 := d5hterms_12.below' D13
         have d6h_13 := d6h_12.below' D13)
      | (go_at_call 57
         with_reducible refine (eqAtom_any x1 x1 _ _ _ _ _ (ints.below' d5hterms_13 ?_) (ints.below' d8hterms_13 ?_)).mono ?_
         · (repeat (first | exact Below.refl _ _ | refine ba ?_ | refine bdr ?_ | refine bs ?_ (by simp)))
         · (repeat (first | exact Below.refl _ _ | refine ba ?_ | refine bdr ?_ | refine bs ?_ (by simp)))
         rintro e w14 ⟨rfl, hb14⟩
         have D14 : Below w13.heap.size w13 w14 := bt (by (repeat (first | exact Below.refl _ _ | refine ba ?_ | refine bdr ?_ | refine bs ?_ (by simp)))) hb14
         have B14 : Below w.heap.size w w14 := bt B13 D14
         have b4c0_14 : w14.cell? ⟨w.heap.size + 1, 0, none⟩ = some (.int .i64 x1.rel) := cell_below b4c0_13 D14
         have b4c1_14 : w14.cell? ⟨w.heap.size + 1, 1, none⟩ = some ((.slice p1terms x1.terms.length q1terms)) := cell_below b4c1_13 D14
         have b10c0_14 : w14.cell? ⟨w8.heap.size, 0, none⟩ = some (.int .i64 x1.rel) := cell_below b10c0_13 D14
         have b10c1_14 : w14.cell? ⟨w8.heap.size, 1, none⟩ = some ((.slice d5aterms x1.terms.length d5cterms)) := cell_below b10c1_13 D14
         have d6h_14 := d6h_13.below' D14))
  clear b3c0_12 b3c1_12 b3c2_12 b3c3_12 b3c4_12 b4c0_12 b4c1_12 b9c0_12 b9c1_12 b9c2_12 b9c3_12 b9c4_12 b10c0_12 b10c1_12 d5hterms_12 d6h_12 b4c0_13 b4c1_13 b10c0_13 b10c1_13 d5hterms_13 d6h_13 d8hterms_13
  go_wp2_with fail
  refine (toIntS_any _ l2 _ (intsV.below' g2 ?_) n2).mono ?_
  · (repeat (first | exact B14 | refine ba ?_ | refine bdr ?_ | refine bs ?_ (by simp)))
  rintro e w15 ⟨d9v, d9f, rfl, d9h_15, d9fr, hb15⟩
  obtain ⟨d9a, d9c, rfl⟩ := slR.form d9h_15
  have D15 : Below w14.heap.size w14 w15 := bt (by (repeat (first | exact Below.refl _ _ | refine ba ?_ | refine bdr ?_ | refine bs ?_ (by simp)))) hb15
  have B15 : Below w.heap.size w w15 := bt B14 D15
  have d6h_15 := d6h_14.below' D15
  clear b4c0_14 b4c1_14 b10c0_14 b10c1_14 d6h_14
  go_wp2_with fail
  refine (eqIntS_any _ _ l2 l2 _ _ _ (ints.below' d6h_15 ?_) (ints.below' d9h_15 ?_)).mono ?_
  · (repeat (first | exact Below.refl _ _ | refine ba ?_ | refine bdr ?_ | refine bs ?_ (by simp)))
  · (repeat (first | exact Below.refl _ _ | refine ba ?_ | refine bdr ?_ | refine bs ?_ (by simp)))
  rintro e w16 ⟨rfl, hb16⟩
  have D16 : Below w15.heap.size w15 w16 := bt (by (repeat (first | exact Below.refl _ _ | refine ba ?_ | refine bdr ?_ | refine bs ?_ (by simp)))) hb16
  have B16 : Below w.heap.size w w16 := bt B15 D16
  clear d6h_15 d9h_15
  go_wp2
  go_ret
  exact ⟨rfl, B16⟩
end Go.Proofs.Ytkhihnoeapfaaaa
