/- The walk of the law FnExactMatchAtom: it returns true, whatever the input. -/
import Derived.Test.YtapapnaljjnhnaaMatR
import Derived.Test.YtapapnaljjnhnaaHBind
import Derived.Test.YtapapnaljjnhnaaHAtom
import Derived.Test.YtapapnaljjnhnaaHFact
import Derived.Test.YtapapnaljjnhnaaFacts0
import Derived.Deep.Cut
namespace Go.Proofs.Ytapapnaljjnhnaa
open Go.RowKit
set_option linter.unusedVariables false
set_option linter.unusedSimpArgs false
set_option maxRecDepth 100000 in
set_option maxHeartbeats 8000000 in
theorem fnExactMatchAtom_walk (cs0 : List Value) (x0 : BindD) (cs1 : List Value) (x1 : AtomD) (cs2 : List Value) (x2 : FactD) (w : World) (g0 : bindW w cs0 x0) (g1 : atomW w cs1 x1) (g2 : factW w cs2 x2)  :
    Calls Try.prog 3 #[.agg cs0.toArray, .agg cs1.toArray, .agg cs2.toArray] w fun e w' => e = .returned (.bool true) ∧ Below w.heap.size w w' := by
  obtain ⟨v0vars, v0vals, rfl, h0vars, h0vals⟩ := g0
  obtain ⟨p0vars, q0vars, rfl⟩ := slW.form h0vars
  obtain ⟨p0vals, q0vals, rfl⟩ := slW.form h0vals
  obtain ⟨v1terms, rfl, i1rel, h1terms⟩ := g1
  obtain ⟨p1terms, q1terms, rfl⟩ := slW.form h1terms
  obtain ⟨v2vals, rfl, i2rel, h2vals⟩ := g2
  obtain ⟨p2vals, q2vals, rfl⟩ := slW.form h2vals
  have b3c0_0 : ∀ (o1 : Obj) (o2 : Obj), (((w.alloc (.cells #[(.slice p0vars x0.vars.length q0vars), (.slice p0vals x0.vals.length q0vals)] 24)).alloc o1).alloc o2).cell? ⟨w.heap.size, 0, none⟩ = some ((.slice p0vars x0.vars.length q0vars)) := fun o1 o2 => cell_al (cell_al (cell_new w _ _ 0 _ rfl) o1) o2
  have b3c1_0 : ∀ (o1 : Obj) (o2 : Obj), (((w.alloc (.cells #[(.slice p0vars x0.vars.length q0vars), (.slice p0vals x0.vals.length q0vals)] 24)).alloc o1).alloc o2).cell? ⟨w.heap.size, 1, none⟩ = some ((.slice p0vals x0.vals.length q0vals)) := fun o1 o2 => cell_al (cell_al (cell_new w _ _ 1 _ rfl) o1) o2
  have b4c0_0 : ∀ (o0 : Obj) (o2 : Obj), (((w.alloc o0).alloc (.cells #[.int .i64 x1.rel, (.slice p1terms x1.terms.length q1terms)] 26)).alloc o2).cell? ⟨w.heap.size + 1, 0, none⟩ = some (.int .i64 x1.rel) := fun o0 o2 => cell_al (cell_at (w.alloc o0) _ (by simp) _ _ 0 _ rfl) o2
  have b4c1_0 : ∀ (o0 : Obj) (o2 : Obj), (((w.alloc o0).alloc (.cells #[.int .i64 x1.rel, (.slice p1terms x1.terms.length q1terms)] 26)).alloc o2).cell? ⟨w.heap.size + 1, 1, none⟩ = some ((.slice p1terms x1.terms.length q1terms)) := fun o0 o2 => cell_al (cell_at (w.alloc o0) _ (by simp) _ _ 1 _ rfl) o2
  have b5c0_0 : ∀ (o0 : Obj) (o1 : Obj), (((w.alloc o0).alloc o1).alloc (.cells #[.int .i64 x2.rel, (.slice p2vals x2.vals.length q2vals)] 28)).cell? ⟨w.heap.size + 2, 0, none⟩ = some (.int .i64 x2.rel) := fun o0 o1 => cell_at ((w.alloc o0).alloc o1) _ (by simp) _ _ 0 _ rfl
  have b5c1_0 : ∀ (o0 : Obj) (o1 : Obj), (((w.alloc o0).alloc o1).alloc (.cells #[.int .i64 x2.rel, (.slice p2vals x2.vals.length q2vals)] 28)).cell? ⟨w.heap.size + 2, 1, none⟩ = some ((.slice p2vals x2.vals.length q2vals)) := fun o0 o1 => cell_at ((w.alloc o0).alloc o1) _ (by simp) _ _ 1 _ rfl
  have rr : decide ((matchR x0 x1 x2).1 = (matchR x0 x1 x2).1) = true := by simp
  have rr : ((matchR x0 x1 x2).2 != (matchR x0 x1 x2).2) = false := by simp
  have rd0 : decide (x0 = x0) = true := by simp
  have rd1 : decide (x1 = x1) = true := by simp
  have rd2 : decide (x2 = x2) = true := by simp
  go_enter Try.func3, Try.ntmps3
  go_wp2_with fail
  refine (szBinding_any x0 _ _ (1048576) _ (intsV.below' h0vars ?_) (intsV.below' h0vals ?_) ⟨by omega, by omega⟩).mono ?_
  · (repeat (first | exact Below.refl _ _ | refine ba ?_ | refine bdr ?_ | refine bs ?_ (by simp)))
  · (repeat (first | exact Below.refl _ _ | refine ba ?_ | refine bdr ?_ | refine bs ?_ (by simp)))
  rintro e w1 ⟨rfl, hb1⟩
  have D1 : Below w.heap.size w w1 := bt (by (repeat (first | exact Below.refl _ _ | refine ba ?_ | refine bdr ?_ | refine bs ?_ (by simp)))) hb1
  have B1 : Below w.heap.size w w1 := D1
  have b3c0_1 : w1.cell? ⟨w.heap.size, 0, none⟩ = some ((.slice p0vars x0.vars.length q0vars)) := cell_below (b3c0_0 _ _) hb1
  have b3c1_1 : w1.cell? ⟨w.heap.size, 1, none⟩ = some ((.slice p0vals x0.vals.length q0vals)) := cell_below (b3c1_0 _ _) hb1
  have b4c0_1 : w1.cell? ⟨w.heap.size + 1, 0, none⟩ = some (.int .i64 x1.rel) := cell_below (b4c0_0 _ _) hb1
  have b4c1_1 : w1.cell? ⟨w.heap.size + 1, 1, none⟩ = some ((.slice p1terms x1.terms.length q1terms)) := cell_below (b4c1_0 _ _) hb1
  have b5c0_1 : w1.cell? ⟨w.heap.size + 2, 0, none⟩ = some (.int .i64 x2.rel) := cell_below (b5c0_0 _ _) hb1
  have b5c1_1 : w1.cell? ⟨w.heap.size + 2, 1, none⟩ = some ((.slice p2vals x2.vals.length q2vals)) := cell_below (b5c1_0 _ _) hb1
  clear b3c0_0 b3c1_0 b4c0_0 b4c1_0 b5c0_0 b5c1_0
  rcases left_cases (bulkBinding x0) (1048576) (by omega) with ⟨t0, t1⟩ | ⟨t0, t1⟩
  case inl =>
    have T1 := Lib.hid t1; clear t1
    go_wp2
    go_ret
    exact ⟨rfl, B1⟩
  have T1 := Lib.hid t1; clear t1
  obtain ⟨qx0, ex01, ex02⟩ := left_bd t0 (by omega) (by omega)
  clear t0
  have nx0vars : x0.vars.length ≤ 1048576 := by have h9 := qx0; unfold bulkBinding at h9; omega
  have nx0vals : x0.vals.length ≤ 1048576 := by have h9 := qx0; unfold bulkBinding at h9; omega
  go_wp2_with fail
  refine (szAtom_any x1 _ (left (bulkBinding x0) (1048576)) _ (intsV.below' h1terms ?_) ⟨by omega, by omega⟩).mono ?_
  · (repeat (first | exact B1 | refine ba ?_ | refine bdr ?_ | refine bs ?_ (by simp)))
  rintro e w2 ⟨rfl, hb2⟩
  have D2 : Below w1.heap.size w1 w2 := bt (by (repeat (first | exact Below.refl _ _ | refine ba ?_ | refine bdr ?_ | refine bs ?_ (by simp)))) hb2
  have B2 : Below w.heap.size w w2 := bt B1 D2
  have b3c0_2 : w2.cell? ⟨w.heap.size, 0, none⟩ = some ((.slice p0vars x0.vars.length q0vars)) := cell_below b3c0_1 D2
  have b3c1_2 : w2.cell? ⟨w.heap.size, 1, none⟩ = some ((.slice p0vals x0.vals.length q0vals)) := cell_below b3c1_1 D2
  have b4c0_2 : w2.cell? ⟨w.heap.size + 1, 0, none⟩ = some (.int .i64 x1.rel) := cell_below b4c0_1 D2
  have b4c1_2 : w2.cell? ⟨w.heap.size + 1, 1, none⟩ = some ((.slice p1terms x1.terms.length q1terms)) := cell_below b4c1_1 D2
  have b5c0_2 : w2.cell? ⟨w.heap.size + 2, 0, none⟩ = some (.int .i64 x2.rel) := cell_below b5c0_1 D2
  have b5c1_2 : w2.cell? ⟨w.heap.size + 2, 1, none⟩ = some ((.slice p2vals x2.vals.length q2vals)) := cell_below b5c1_1 D2
  clear b3c0_1 b3c1_1 b4c0_1 b4c1_1 b5c0_1 b5c1_1
  rcases left_cases (bulkAtom x1) (left (bulkBinding x0) (1048576)) (by omega) with ⟨t0, t1⟩ | ⟨t0, t1⟩
  case inl =>
    have T1 := Lib.hid t1; clear t1
    go_wp2
    go_ret
    exact ⟨rfl, B2⟩
  have T2 := Lib.hid t1; clear t1
  obtain ⟨qx1, ex11, ex12⟩ := left_bd t0 (by omega) (by omega)
  clear t0
  have nx1terms : x1.terms.length ≤ 1048576 := by have h9 := qx1; unfold bulkAtom at h9; omega
  have nS : x0.vars.length + x1.terms.length ≤ 1048576 := by have h1 := left_fits _ _ ex11; have h2 := left_fits _ _ ex01; unfold bulkAtom bulkBinding at *; omega
  go_wp2_with fail
  refine (szFact_any x2 _ (left (bulkAtom x1) (left (bulkBinding x0) (1048576))) _ (intsV.below' h2vals ?_) ⟨by omega, by omega⟩).mono ?_
  · (repeat (first | exact B2 | refine ba ?_ | refine bdr ?_ | refine bs ?_ (by simp)))
  rintro e w3 ⟨rfl, hb3⟩
  have D3 : Below w2.heap.size w2 w3 := bt (by (repeat (first | exact Below.refl _ _ | refine ba ?_ | refine bdr ?_ | refine bs ?_ (by simp)))) hb3
  have B3 : Below w.heap.size w w3 := bt B2 D3
  have b3c0_3 : w3.cell? ⟨w.heap.size, 0, none⟩ = some ((.slice p0vars x0.vars.length q0vars)) := cell_below b3c0_2 D3
  have b3c1_3 : w3.cell? ⟨w.heap.size, 1, none⟩ = some ((.slice p0vals x0.vals.length q0vals)) := cell_below b3c1_2 D3
  have b4c0_3 : w3.cell? ⟨w.heap.size + 1, 0, none⟩ = some (.int .i64 x1.rel) := cell_below b4c0_2 D3
  have b4c1_3 : w3.cell? ⟨w.heap.size + 1, 1, none⟩ = some ((.slice p1terms x1.terms.length q1terms)) := cell_below b4c1_2 D3
  have b5c0_3 : w3.cell? ⟨w.heap.size + 2, 0, none⟩ = some (.int .i64 x2.rel) := cell_below b5c0_2 D3
  have b5c1_3 : w3.cell? ⟨w.heap.size + 2, 1, none⟩ = some ((.slice p2vals x2.vals.length q2vals)) := cell_below b5c1_2 D3
  clear b3c0_2 b3c1_2 b4c0_2 b4c1_2 b5c0_2 b5c1_2
  rcases left_cases (bulkFact x2) (left (bulkAtom x1) (left (bulkBinding x0) (1048576))) (by omega) with ⟨t0, t1⟩ | ⟨t0, t1⟩
  case inl =>
    have T1 := Lib.hid t1; clear t1
    go_wp2
    go_ret
    exact ⟨rfl, B3⟩
  have T3 := Lib.hid t1; clear t1
  obtain ⟨qx2, ex21, ex22⟩ := left_bd t0 (by omega) (by omega)
  clear t0
  have nx2vals : x2.vals.length ≤ 1048576 := by have h9 := qx2; unfold bulkFact at h9; omega
  have nR : (matchR x0 x1 x2).1.vars.length ≤ 1048576 ∧ (matchR x0 x1 x2).1.vals.length ≤ 2097152 := by have h1 := matchR_len x0 x1 x2; omega
  obtain ⟨nR1, nR2⟩ := nR
  go_wp2_with fail
  go_cut [8, 9] from 35 (fun s8 s9 wr => ∃ (g8 : Nat) (d4vvars d4vvals : Value) (d4fvars d4fvals : List Nat), s8 = .pointer (some ⟨g8, 0, none⟩) ∧ s9 = .bool ((matchR x0 x1 x2).2) ∧ w3.heap.size ≤ g8 ∧ MrBox w3 wr g8 d4vvars d4vvals ((matchR x0 x1 x2).1).vars ((matchR x0 x1 x2).1).vals d4fvars d4fvals)
  case first =>
    go_region_held3 (fun w' => w'.cell? ⟨w.heap.size, 0, none⟩ = some ((.slice p0vars x0.vars.length q0vars)) ∧ w'.cell? ⟨w.heap.size, 1, none⟩ = some ((.slice p0vals x0.vals.length q0vals)) ∧ w'.cell? ⟨w.heap.size + 1, 0, none⟩ = some (.int .i64 x1.rel) ∧ w'.cell? ⟨w.heap.size + 1, 1, none⟩ = some ((.slice p1terms x1.terms.length q1terms)) ∧ w'.cell? ⟨w.heap.size + 2, 0, none⟩ = some (.int .i64 x2.rel) ∧ w'.cell? ⟨w.heap.size + 2, 1, none⟩ = some ((.slice p2vals x2.vals.length q2vals))) (first | exact ⟨b3c0_3, b3c1_3, b4c0_3, b4c1_3, b5c0_3, b5c1_3⟩ | exact ⟨cell_al b3c0_3 _, cell_al b3c1_3 _, cell_al b4c0_3 _, cell_al b4c1_3 _, cell_al b5c0_3 _, cell_al b5c1_3 _⟩ | exact ⟨b3c0_4, b3c1_4, b4c0_4, b4c1_4, b5c0_4, b5c1_4⟩ | exact ⟨cell_al b3c0_4 _, cell_al b3c1_4 _, cell_al b4c0_4 _, cell_al b4c1_4 _, cell_al b5c0_4 _, cell_al b5c1_4 _⟩ | exact ⟨b3c0_5, b3c1_5, b4c0_5, b4c1_5, b5c0_5, b5c1_5⟩ | exact ⟨cell_al b3c0_5 _, cell_al b3c1_5 _, cell_al b4c0_5 _, cell_al b4c1_5 _, cell_al b5c0_5 _, cell_al b5c1_5 _⟩ | exact ⟨b3c0_6, b3c1_6, b4c0_6, b4c1_6, b5c0_6, b5c1_6⟩ | exact ⟨cell_al b3c0_6 _, cell_al b3c1_6 _, cell_al b4c0_6 _, cell_al b4c1_6 _, cell_al b5c0_6 _, cell_al b5c1_6 _⟩ | exact ⟨b3c0_7, b3c1_7, b4c0_7, b4c1_7, b5c0_7, b5c1_7⟩ | exact ⟨cell_al b3c0_7 _, cell_al b3c1_7 _, cell_al b4c0_7 _, cell_al b4c1_7 _, cell_al b5c0_7 _, cell_al b5c1_7 _⟩ | exact ⟨cell_below b3c0_3 (by repeat (first | exact DK | exact Below.refl _ _ | refine bs ?_ (by first | omega | exact Nat.le_refl _ | (dsimp only; omega) | (simp; done) | (simp; omega)) | refine ba ?_)), cell_below b3c1_3 (by repeat (first | exact DK | exact Below.refl _ _ | refine bs ?_ (by first | omega | exact Nat.le_refl _ | (dsimp only; omega) | (simp; done) | (simp; omega)) | refine ba ?_)), cell_below b4c0_3 (by repeat (first | exact DK | exact Below.refl _ _ | refine bs ?_ (by first | omega | exact Nat.le_refl _ | (dsimp only; omega) | (simp; done) | (simp; omega)) | refine ba ?_)), cell_below b4c1_3 (by repeat (first | exact DK | exact Below.refl _ _ | refine bs ?_ (by first | omega | exact Nat.le_refl _ | (dsimp only; omega) | (simp; done) | (simp; omega)) | refine ba ?_)), cell_below b5c0_3 (by repeat (first | exact DK | exact Below.refl _ _ | refine bs ?_ (by first | omega | exact Nat.le_refl _ | (dsimp only; omega) | (simp; done) | (simp; omega)) | refine ba ?_)), cell_below b5c1_3 (by repeat (first | exact DK | exact Below.refl _ _ | refine bs ?_ (by first | omega | exact Nat.le_refl _ | (dsimp only; omega) | (simp; done) | (simp; omega)) | refine ba ?_))⟩)
      (first
        | (go_at_call 8
           refine (toBinding_any x0 _ _ _ (intsV.below' h0vars ?_) nx0vars (intsV.below' h0vals ?_) nx0vals).mono ?_
           · (repeat (first | exact B3 | refine ba ?_ | refine bdr ?_ | refine bs ?_ (by simp)))
           · (repeat (first | exact B3 | refine ba ?_ | refine bdr ?_ | refine bs ?_ (by simp)))
           rintro e w4 ⟨d1vvars, d1vvals, d1fvars, d1fvals, rfl, d1hvars_4, d1hvals_4, d1fr, hb4⟩
           obtain ⟨d1avars, d1cvars, rfl⟩ := slR.form d1hvars_4
           obtain ⟨d1avals, d1cvals, rfl⟩ := slR.form d1hvals_4
           have D4 : Below w3.heap.size w3 w4 := bt (by (repeat (first | exact Below.refl _ _ | refine ba ?_ | refine bdr ?_ | refine bs ?_ (by simp)))) hb4
           have B4 : Below w.heap.size w w4 := bt B3 D4
           have b3c0_4 : w4.cell? ⟨w.heap.size, 0, none⟩ = some ((.slice p0vars x0.vars.length q0vars)) := cell_below b3c0_3 D4
           have b3c1_4 : w4.cell? ⟨w.heap.size, 1, none⟩ = some ((.slice p0vals x0.vals.length q0vals)) := cell_below b3c1_3 D4
           have b4c0_4 : w4.cell? ⟨w.heap.size + 1, 0, none⟩ = some (.int .i64 x1.rel) := cell_below b4c0_3 D4
           have b4c1_4 : w4.cell? ⟨w.heap.size + 1, 1, none⟩ = some ((.slice p1terms x1.terms.length q1terms)) := cell_below b4c1_3 D4
           have b5c0_4 : w4.cell? ⟨w.heap.size + 2, 0, none⟩ = some (.int .i64 x2.rel) := cell_below b5c0_3 D4
           have b5c1_4 : w4.cell? ⟨w.heap.size + 2, 1, none⟩ = some ((.slice p2vals x2.vals.length q2vals)) := cell_below b5c1_3 D4
           have zz4 := D4.size
           first | (have bx4 := (Two.new _ _ _ _).below hb4) | (have bx4 := ((Two.new _ _ _ _).below (bdr (Below.refl _ _))).below hb4) | (have bx4 := bx3.below hb4) | (have bx4 := (bx3.below (bdr (Below.refl _ _))).below hb4) | skip
           first | (obtain ⟨⟨by4, bz4⟩, bu4, bv4⟩ := (id bx4)) | skip)
        | (go_at_call 9
           refine (toAtom_any x1 _ _ (intsV.below' h1terms ?_) nx1terms).mono ?_
           · (repeat (first | exact B4 | refine ba ?_ | refine bdr ?_ | refine bs ?_ (by simp)))
           rintro e w5 ⟨d2vterms, d2fterms, rfl, d2hterms_5, d2fr, hb5⟩
           obtain ⟨d2aterms, d2cterms, rfl⟩ := slR.form d2hterms_5
           have D5 : Below w4.heap.size w4 w5 := bt (by (repeat (first | exact Below.refl _ _ | refine ba ?_ | refine bdr ?_ | refine bs ?_ (by simp)))) hb5
           have B5 : Below w.heap.size w w5 := bt B4 D5
           have b3c0_5 : w5.cell? ⟨w.heap.size, 0, none⟩ = some ((.slice p0vars x0.vars.length q0vars)) := cell_below b3c0_4 D5
           have b3c1_5 : w5.cell? ⟨w.heap.size, 1, none⟩ = some ((.slice p0vals x0.vals.length q0vals)) := cell_below b3c1_4 D5
           have b4c0_5 : w5.cell? ⟨w.heap.size + 1, 0, none⟩ = some (.int .i64 x1.rel) := cell_below b4c0_4 D5
           have b4c1_5 : w5.cell? ⟨w.heap.size + 1, 1, none⟩ = some ((.slice p1terms x1.terms.length q1terms)) := cell_below b4c1_4 D5
           have b5c0_5 : w5.cell? ⟨w.heap.size + 2, 0, none⟩ = some (.int .i64 x2.rel) := cell_below b5c0_4 D5
           have b5c1_5 : w5.cell? ⟨w.heap.size + 2, 1, none⟩ = some ((.slice p2vals x2.vals.length q2vals)) := cell_below b5c1_4 D5
           have d1hvars_5 := d1hvars_4.below' D5
           have d1hvals_5 := d1hvals_4.below' D5
           have zz5 := D5.size
           first | (have bx5 := (Two.new _ _ _ _).below hb5) | (have bx5 := ((Two.new _ _ _ _).below (bdr (Below.refl _ _))).below hb5) | (have bx5 := bx4.below hb5) | (have bx5 := (bx4.below (bdr (Below.refl _ _))).below hb5) | skip
           first | (obtain ⟨⟨by5, bz5⟩, bu5, bv5⟩ := (id bx5)) | skip)
        | (go_at_call 10
           refine (toFact_any x2 _ _ (intsV.below' h2vals ?_) nx2vals).mono ?_
           · (repeat (first | exact B5 | refine ba ?_ | refine bdr ?_ | refine bs ?_ (by simp)))
           rintro e w6 ⟨d3vvals, d3fvals, rfl, d3hvals_6, d3fr, hb6⟩
           obtain ⟨d3avals, d3cvals, rfl⟩ := slR.form d3hvals_6
           have D6 : Below w5.heap.size w5 w6 := bt (by (repeat (first | exact Below.refl _ _ | refine ba ?_ | refine bdr ?_ | refine bs ?_ (by simp)))) hb6
           have B6 : Below w.heap.size w w6 := bt B5 D6
           have b3c0_6 : w6.cell? ⟨w.heap.size, 0, none⟩ = some ((.slice p0vars x0.vars.length q0vars)) := cell_below b3c0_5 D6
           have b3c1_6 : w6.cell? ⟨w.heap.size, 1, none⟩ = some ((.slice p0vals x0.vals.length q0vals)) := cell_below b3c1_5 D6
           have b4c0_6 : w6.cell? ⟨w.heap.size + 1, 0, none⟩ = some (.int .i64 x1.rel) := cell_below b4c0_5 D6
           have b4c1_6 : w6.cell? ⟨w.heap.size + 1, 1, none⟩ = some ((.slice p1terms x1.terms.length q1terms)) := cell_below b4c1_5 D6
           have b5c0_6 : w6.cell? ⟨w.heap.size + 2, 0, none⟩ = some (.int .i64 x2.rel) := cell_below b5c0_5 D6
           have b5c1_6 : w6.cell? ⟨w.heap.size + 2, 1, none⟩ = some ((.slice p2vals x2.vals.length q2vals)) := cell_below b5c1_5 D6
           have d1hvars_6 := d1hvars_5.below' D6
           have d1hvals_6 := d1hvals_5.below' D6
           have d2hterms_6 := d2hterms_5.below' D6
           have zz6 := D6.size
           first | (have bx6 := (Two.new _ _ _ _).below hb6) | (have bx6 := ((Two.new _ _ _ _).below (bdr (Below.refl _ _))).below hb6) | (have bx6 := bx5.below hb6) | (have bx6 := (bx5.below (bdr (Below.refl _ _))).below hb6) | skip
           first | (obtain ⟨⟨by6, bz6⟩, bu6, bv6⟩ := (id bx6)) | skip)
        | (go_at_call 7
           refine (specMatchR_any x0 x1 x2 _ _ _ _ _ _ _ _ _ (ints.below' d1hvars_6 ?_) (ints.below' d1hvals_6 ?_) (ints.below' d2hterms_6 ?_) (ints.below' d3hvals_6 ?_) nS nx0vals).mono ?_
           · (repeat (first | exact Below.refl _ _ | refine ba ?_ | refine bdr ?_ | refine bs ?_ (by simp)))
           · (repeat (first | exact Below.refl _ _ | refine ba ?_ | refine bdr ?_ | refine bs ?_ (by simp)))
           · (repeat (first | exact Below.refl _ _ | refine ba ?_ | refine bdr ?_ | refine bs ?_ (by simp)))
           · (repeat (first | exact Below.refl _ _ | refine ba ?_ | refine bdr ?_ | refine bs ?_ (by simp)))
           rintro e w7 ⟨d4vvars, d4vvals, d4fvars, d4fvals, rfl, d4hvars_7, d4hvals_7, d4fr, hb7⟩
           obtain ⟨d4avars, d4cvars, rfl⟩ := slR.form d4hvars_7
           obtain ⟨d4avals, d4cvals, rfl⟩ := slR.form d4hvals_7
           have D7 : Below w6.heap.size w6 w7 := bt (by (repeat (first | exact Below.refl _ _ | refine ba ?_ | refine bdr ?_ | refine bs ?_ (by simp)))) hb7
           have B7 : Below w.heap.size w w7 := bt B6 D7
           have b3c0_7 : w7.cell? ⟨w.heap.size, 0, none⟩ = some ((.slice p0vars x0.vars.length q0vars)) := cell_below b3c0_6 D7
           have b3c1_7 : w7.cell? ⟨w.heap.size, 1, none⟩ = some ((.slice p0vals x0.vals.length q0vals)) := cell_below b3c1_6 D7
           have b4c0_7 : w7.cell? ⟨w.heap.size + 1, 0, none⟩ = some (.int .i64 x1.rel) := cell_below b4c0_6 D7
           have b4c1_7 : w7.cell? ⟨w.heap.size + 1, 1, none⟩ = some ((.slice p1terms x1.terms.length q1terms)) := cell_below b4c1_6 D7
           have b5c0_7 : w7.cell? ⟨w.heap.size + 2, 0, none⟩ = some (.int .i64 x2.rel) := cell_below b5c0_6 D7
           have b5c1_7 : w7.cell? ⟨w.heap.size + 2, 1, none⟩ = some ((.slice p2vals x2.vals.length q2vals)) := cell_below b5c1_6 D7
           have DK := (bt (bt (bt D4 D5) D6) D7)
           have zz7 := D7.size
           first | (have bx7 := (Two.new _ _ _ _).below hb7) | (have bx7 := ((Two.new _ _ _ _).below (bdr (Below.refl _ _))).below hb7) | (have bx7 := bx6.below hb7) | (have bx7 := (bx6.below (bdr (Below.refl _ _))).below hb7) | skip
           first | (obtain ⟨⟨by7, bz7⟩, bu7, bv7⟩ := (id bx7)) | skip))
    all_goals (try go_wp2_with fail)
    all_goals go_meet
    all_goals refine ⟨_, (.slice d4avars ((matchR x0 x1 x2).1).vars.length d4cvars), (.slice d4avals ((matchR x0 x1 x2).1).vals.length d4cvals), d4fvars, d4fvals, rfl, rfl, ?_, ?_⟩
    all_goals (first | (with_reducible exact Nat.le_refl _) | omega | (with_reducible exact mr_late2 d4hvars_7 d4hvals_7 DK) | (with_reducible exact mr_late d4hvars_7 d4hvals_7 DK) | (with_reducible refine mr_early (n1 := .slice none 0 0) (n2 := .slice none 0 0) ?_ ?_ hb7 d4hvars_7 d4hvals_7 d4fr DK))
    all_goals (first | (with_reducible exact Nat.le_refl _) | omega | (with_reducible first | exact Two.new _ _ _ _ | exact bx6 | exact bx6.below (bdr (Below.refl _ _)) | exact bx5 | exact bx5.below (bdr (Below.refl _ _)) | exact bx4 | exact bx4.below (bdr (Below.refl _ _))) | exact (Two.new _ _ _ _).below (bdr (Below.refl _ _)))
  case rest =>
  obtain ⟨g8, d4vvars, d4vvals, d4fvars, d4fvals, rfl, rfl, hge7, ⟨b8c0_7, b8c1_7⟩, d4hvars_7, d4hvals_7, D7⟩ := hcut
  obtain ⟨w7, ew7⟩ : ∃ x, x = wc := ⟨_, rfl⟩
  subst ew7
  obtain ⟨d4avars, d4cvars, rfl⟩ := slR.form d4hvars_7
  obtain ⟨d4avals, d4cvals, rfl⟩ := slR.form d4hvals_7
  have B7 : Below w.heap.size w w7 := bt B3 D7
  have b3c0_7 : w7.cell? ⟨w.heap.size, 0, none⟩ = some ((.slice p0vars x0.vars.length q0vars)) := cell_below b3c0_3 D7
  have b3c1_7 : w7.cell? ⟨w.heap.size, 1, none⟩ = some ((.slice p0vals x0.vals.length q0vals)) := cell_below b3c1_3 D7
  have b4c0_7 : w7.cell? ⟨w.heap.size + 1, 0, none⟩ = some (.int .i64 x1.rel) := cell_below b4c0_3 D7
  have b4c1_7 : w7.cell? ⟨w.heap.size + 1, 1, none⟩ = some ((.slice p1terms x1.terms.length q1terms)) := cell_below b4c1_3 D7
  have b5c0_7 : w7.cell? ⟨w.heap.size + 2, 0, none⟩ = some (.int .i64 x2.rel) := cell_below b5c0_3 D7
  have b5c1_7 : w7.cell? ⟨w.heap.size + 2, 1, none⟩ = some ((.slice p2vals x2.vals.length q2vals)) := cell_below b5c1_3 D7
  clear b3c0_3 b3c1_3 b4c0_3 b4c1_3 b5c0_3 b5c1_3
  go_wp2_with fail
  refine (toBinding_any x0 _ _ _ (intsV.below' h0vars ?_) nx0vars (intsV.below' h0vals ?_) nx0vals).mono ?_
  · (repeat (first | exact B7 | refine ba ?_ | refine bdr ?_ | refine bs ?_ (by simp)))
  · (repeat (first | exact B7 | refine ba ?_ | refine bdr ?_ | refine bs ?_ (by simp)))
  rintro e w8 ⟨d5vvars, d5vvals, d5fvars, d5fvals, rfl, d5hvars_8, d5hvals_8, d5fr, hb8⟩
  obtain ⟨d5avars, d5cvars, rfl⟩ := slR.form d5hvars_8
  obtain ⟨d5avals, d5cvals, rfl⟩ := slR.form d5hvals_8
  have d5F : Fresh w7.heap.size (d5fvars ++ d5fvals) := d5fr.mono (Below.size (B := w7.heap.size) (by (repeat (first | exact Below.refl _ _ | refine ba ?_ | refine bdr ?_ | refine bs ?_ (by simp)))))
  have Xd4fvars_d5 : ∀ g ∈ d4fvars, g ∉ d5fvars ++ d5fvals := fun g hg => d5F.notin (d4hvars_7.lt g hg)
  have Xd4fvals_d5 : ∀ g ∈ d4fvals, g ∉ d5fvars ++ d5fvals := fun g hg => d5F.notin (d4hvals_7.lt g hg)
  have d5L : ∀ g ∈ d5fvars ++ d5fvals, w.heap.size ≤ g := fun g hg => Nat.le_trans (Below.size B7) (d5F.2 g hg)
  have Nb3_d5 : w.heap.size ∉ d5fvars ++ d5fvals := d5F.notin (lt_of_cell b3c0_7)
  have Nb4_d5 : w.heap.size + 1 ∉ d5fvars ++ d5fvals := d5F.notin (lt_of_cell b4c0_7)
  have Nb5_d5 : w.heap.size + 2 ∉ d5fvars ++ d5fvals := d5F.notin (lt_of_cell b5c0_7)
  have Nb8_d5 : g8 ∉ d5fvars ++ d5fvals := d5F.notin (lt_of_cell b8c0_7)
  have D8 : Below w7.heap.size w7 w8 := bt (by (repeat (first | exact Below.refl _ _ | refine ba ?_ | refine bdr ?_ | refine bs ?_ (by simp)))) hb8
  have B8 : Below w.heap.size w w8 := bt B7 D8
  have b3c0_8 : w8.cell? ⟨w.heap.size, 0, none⟩ = some ((.slice p0vars x0.vars.length q0vars)) := cell_below b3c0_7 D8
  have b3c1_8 : w8.cell? ⟨w.heap.size, 1, none⟩ = some ((.slice p0vals x0.vals.length q0vals)) := cell_below b3c1_7 D8
  have b4c0_8 : w8.cell? ⟨w.heap.size + 1, 0, none⟩ = some (.int .i64 x1.rel) := cell_below b4c0_7 D8
  have b4c1_8 : w8.cell? ⟨w.heap.size + 1, 1, none⟩ = some ((.slice p1terms x1.terms.length q1terms)) := cell_below b4c1_7 D8
  have b5c0_8 : w8.cell? ⟨w.heap.size + 2, 0, none⟩ = some (.int .i64 x2.rel) := cell_below b5c0_7 D8
  have b5c1_8 : w8.cell? ⟨w.heap.size + 2, 1, none⟩ = some ((.slice p2vals x2.vals.length q2vals)) := cell_below b5c1_7 D8
  have b8c0_8 : w8.cell? ⟨g8, 0, none⟩ = some ((.slice d4avars ((matchR x0 x1 x2).1).vars.length d4cvars)) := cell_below b8c0_7 D8
  have b8c1_8 : w8.cell? ⟨g8, 1, none⟩ = some ((.slice d4avals ((matchR x0 x1 x2).1).vals.length d4cvals)) := cell_below b8c1_7 D8
  have d4hvars_8 := d4hvars_7.below' D8
  have d4hvals_8 := d4hvals_7.below' D8
  clear b3c0_7 b3c1_7 b4c0_7 b4c1_7 b5c0_7 b5c1_7 b8c0_7 b8c1_7 d4hvars_7 d4hvals_7
  have b3c0_8n := fun o => cell_al b3c0_8 o
  have b3c1_8n := fun o => cell_al b3c1_8 o
  have b4c0_8n := fun o => cell_al b4c0_8 o
  have b4c1_8n := fun o => cell_al b4c1_8 o
  have b5c0_8n := fun o => cell_al b5c0_8 o
  have b5c1_8n := fun o => cell_al b5c1_8 o
  have b8c0_8n := fun o => cell_al b8c0_8 o
  have b8c1_8n := fun o => cell_al b8c1_8 o
  have Nb10_d5vars : w8.heap.size ∉ d5fvars := fun h => Nat.lt_irrefl _ (d5hvars_8.lt _ h)
  have Nb10_d5vals : w8.heap.size ∉ d5fvals := fun h => Nat.lt_irrefl _ (d5hvals_8.lt _ h)
  have Nb10_d5 : w8.heap.size ∉ d5fvars ++ d5fvals := fun h => (List.mem_append.1 h).elim Nb10_d5vars Nb10_d5vals
  go_wp2_with fail
  refine (toAtom_any x1 _ _ (intsV.below' h1terms ?_) nx1terms).mono ?_
  · (repeat (first | exact B8 | refine ba ?_ | refine bdr ?_ | refine bs ?_ (by simp)))
  rintro e w9 ⟨d6vterms, d6fterms, rfl, d6hterms_9, d6fr, hb9⟩
  obtain ⟨d6aterms, d6cterms, rfl⟩ := slR.form d6hterms_9
  have d6F : Fresh w8.heap.size (d6fterms) := d6fr.mono (Below.size (B := w8.heap.size) (by (repeat (first | exact Below.refl _ _ | refine ba ?_ | refine bdr ?_ | refine bs ?_ (by simp)))))
  have Xd4fvars_d6 : ∀ g ∈ d4fvars, g ∉ d6fterms := fun g hg => d6F.notin (d4hvars_8.lt g hg)
  have Xd4fvals_d6 : ∀ g ∈ d4fvals, g ∉ d6fterms := fun g hg => d6F.notin (d4hvals_8.lt g hg)
  have Xd5fvars_d6 : ∀ g ∈ d5fvars, g ∉ d6fterms := fun g hg => d6F.notin (d5hvars_8.lt g hg)
  have Xd5fvals_d6 : ∀ g ∈ d5fvals, g ∉ d6fterms := fun g hg => d6F.notin (d5hvals_8.lt g hg)
  have d6L : ∀ g ∈ d6fterms, w.heap.size ≤ g := fun g hg => Nat.le_trans (Below.size B8) (d6F.2 g hg)
  have Nb3_d6 : w.heap.size ∉ d6fterms := d6F.notin (lt_of_cell b3c0_8)
  have Nb4_d6 : w.heap.size + 1 ∉ d6fterms := d6F.notin (lt_of_cell b4c0_8)
  have Nb5_d6 : w.heap.size + 2 ∉ d6fterms := d6F.notin (lt_of_cell b5c0_8)
  have Nb8_d6 : g8 ∉ d6fterms := d6F.notin (lt_of_cell b8c0_8)
  have Nb10_d6 : w8.heap.size ∉ d6fterms := d6fr.notin (by simp)
  have D9 : Below w8.heap.size w8 w9 := bt (by (repeat (first | exact Below.refl _ _ | refine ba ?_ | refine bdr ?_ | refine bs ?_ (by simp)))) hb9
  have B9 : Below w.heap.size w w9 := bt B8 D9
  have b3c0_9 : w9.cell? ⟨w.heap.size, 0, none⟩ = some ((.slice p0vars x0.vars.length q0vars)) := cell_below b3c0_8 D9
  have b3c1_9 : w9.cell? ⟨w.heap.size, 1, none⟩ = some ((.slice p0vals x0.vals.length q0vals)) := cell_below b3c1_8 D9
  have b4c0_9 : w9.cell? ⟨w.heap.size + 1, 0, none⟩ = some (.int .i64 x1.rel) := cell_below b4c0_8 D9
  have b4c1_9 : w9.cell? ⟨w.heap.size + 1, 1, none⟩ = some ((.slice p1terms x1.terms.length q1terms)) := cell_below b4c1_8 D9
  have b5c0_9 : w9.cell? ⟨w.heap.size + 2, 0, none⟩ = some (.int .i64 x2.rel) := cell_below b5c0_8 D9
  have b5c1_9 : w9.cell? ⟨w.heap.size + 2, 1, none⟩ = some ((.slice p2vals x2.vals.length q2vals)) := cell_below b5c1_8 D9
  have b8c0_9 : w9.cell? ⟨g8, 0, none⟩ = some ((.slice d4avars ((matchR x0 x1 x2).1).vars.length d4cvars)) := cell_below b8c0_8 D9
  have b8c1_9 : w9.cell? ⟨g8, 1, none⟩ = some ((.slice d4avals ((matchR x0 x1 x2).1).vals.length d4cvals)) := cell_below b8c1_8 D9
  have b10c0_9 : w9.cell? ⟨w8.heap.size, 0, none⟩ = some ((.slice d5avars x0.vars.length d5cvars)) := cell_below (cell_new _ _ _ 0 _ rfl) hb9
  have b10c1_9 : w9.cell? ⟨w8.heap.size, 1, none⟩ = some ((.slice d5avals x0.vals.length d5cvals)) := cell_below (cell_new _ _ _ 1 _ rfl) hb9
  have d4hvars_9 := d4hvars_8.below' D9
  have d4hvals_9 := d4hvals_8.below' D9
  have d5hvars_9 := d5hvars_8.below' D9
  have d5hvals_9 := d5hvals_8.below' D9
  clear b3c0_8 b3c1_8 b4c0_8 b4c1_8 b5c0_8 b5c1_8 b8c0_8 b8c1_8 d4hvars_8 d4hvals_8 d5hvars_8 d5hvals_8 b3c0_8n b3c1_8n b4c0_8n b4c1_8n b5c0_8n b5c1_8n b8c0_8n b8c1_8n
  have b3c0_9n := fun o => cell_al b3c0_9 o
  have b3c1_9n := fun o => cell_al b3c1_9 o
  have b4c0_9n := fun o => cell_al b4c0_9 o
  have b4c1_9n := fun o => cell_al b4c1_9 o
  have b5c0_9n := fun o => cell_al b5c0_9 o
  have b5c1_9n := fun o => cell_al b5c1_9 o
  have b8c0_9n := fun o => cell_al b8c0_9 o
  have b8c1_9n := fun o => cell_al b8c1_9 o
  have b10c0_9n := fun o => cell_al b10c0_9 o
  have b10c1_9n := fun o => cell_al b10c1_9 o
  have Nb11_d5vars : w9.heap.size ∉ d5fvars := fun h => Nat.lt_irrefl _ (d5hvars_9.lt _ h)
  have Nb11_d5vals : w9.heap.size ∉ d5fvals := fun h => Nat.lt_irrefl _ (d5hvals_9.lt _ h)
  have Nb11_d5 : w9.heap.size ∉ d5fvars ++ d5fvals := fun h => (List.mem_append.1 h).elim Nb11_d5vars Nb11_d5vals
  have Nb11_d6terms : w9.heap.size ∉ d6fterms := fun h => Nat.lt_irrefl _ (d6hterms_9.lt _ h)
  have Nb11_d6 := Nb11_d6terms
  go_wp2_with fail
  refine (toFact_any x2 _ _ (intsV.below' h2vals ?_) nx2vals).mono ?_
  · (repeat (first | exact B9 | refine ba ?_ | refine bdr ?_ | refine bs ?_ (by simp)))
  rintro e w10 ⟨d7vvals, d7fvals, rfl, d7hvals_10, d7fr, hb10⟩
  obtain ⟨d7avals, d7cvals, rfl⟩ := slR.form d7hvals_10
  have d7F : Fresh w9.heap.size (d7fvals) := d7fr.mono (Below.size (B := w9.heap.size) (by (repeat (first | exact Below.refl _ _ | refine ba ?_ | refine bdr ?_ | refine bs ?_ (by simp)))))
  have Xd4fvars_d7 : ∀ g ∈ d4fvars, g ∉ d7fvals := fun g hg => d7F.notin (d4hvars_9.lt g hg)
  have Xd4fvals_d7 : ∀ g ∈ d4fvals, g ∉ d7fvals := fun g hg => d7F.notin (d4hvals_9.lt g hg)
  have Xd5fvars_d7 : ∀ g ∈ d5fvars, g ∉ d7fvals := fun g hg => d7F.notin (d5hvars_9.lt g hg)
  have Xd5fvals_d7 : ∀ g ∈ d5fvals, g ∉ d7fvals := fun g hg => d7F.notin (d5hvals_9.lt g hg)
  have Xd6fterms_d7 : ∀ g ∈ d6fterms, g ∉ d7fvals := fun g hg => d7F.notin (d6hterms_9.lt g hg)
  have d7L : ∀ g ∈ d7fvals, w.heap.size ≤ g := fun g hg => Nat.le_trans (Below.size B9) (d7F.2 g hg)
  have Nb3_d7 : w.heap.size ∉ d7fvals := d7F.notin (lt_of_cell b3c0_9)
  have Nb4_d7 : w.heap.size + 1 ∉ d7fvals := d7F.notin (lt_of_cell b4c0_9)
  have Nb5_d7 : w.heap.size + 2 ∉ d7fvals := d7F.notin (lt_of_cell b5c0_9)
  have Nb8_d7 : g8 ∉ d7fvals := d7F.notin (lt_of_cell b8c0_9)
  have Nb10_d7 : w8.heap.size ∉ d7fvals := d7F.notin (lt_of_cell b10c0_9)
  have Nb11_d7 : w9.heap.size ∉ d7fvals := d7fr.notin (by simp)
  have D10 : Below w9.heap.size w9 w10 := bt (by (repeat (first | exact Below.refl _ _ | refine ba ?_ | refine bdr ?_ | refine bs ?_ (by simp)))) hb10
  have B10 : Below w.heap.size w w10 := bt B9 D10
  have b3c0_10 : w10.cell? ⟨w.heap.size, 0, none⟩ = some ((.slice p0vars x0.vars.length q0vars)) := cell_below b3c0_9 D10
  have b3c1_10 : w10.cell? ⟨w.heap.size, 1, none⟩ = some ((.slice p0vals x0.vals.length q0vals)) := cell_below b3c1_9 D10
  have b4c0_10 : w10.cell? ⟨w.heap.size + 1, 0, none⟩ = some (.int .i64 x1.rel) := cell_below b4c0_9 D10
  have b4c1_10 : w10.cell? ⟨w.heap.size + 1, 1, none⟩ = some ((.slice p1terms x1.terms.length q1terms)) := cell_below b4c1_9 D10
  have b5c0_10 : w10.cell? ⟨w.heap.size + 2, 0, none⟩ = some (.int .i64 x2.rel) := cell_below b5c0_9 D10
  have b5c1_10 : w10.cell? ⟨w.heap.size + 2, 1, none⟩ = some ((.slice p2vals x2.vals.length q2vals)) := cell_below b5c1_9 D10
  have b8c0_10 : w10.cell? ⟨g8, 0, none⟩ = some ((.slice d4avars ((matchR x0 x1 x2).1).vars.length d4cvars)) := cell_below b8c0_9 D10
  have b8c1_10 : w10.cell? ⟨g8, 1, none⟩ = some ((.slice d4avals ((matchR x0 x1 x2).1).vals.length d4cvals)) := cell_below b8c1_9 D10
  have b10c0_10 : w10.cell? ⟨w8.heap.size, 0, none⟩ = some ((.slice d5avars x0.vars.length d5cvars)) := cell_below b10c0_9 D10
  have b10c1_10 : w10.cell? ⟨w8.heap.size, 1, none⟩ = some ((.slice d5avals x0.vals.length d5cvals)) := cell_below b10c1_9 D10
  have b11c0_10 : w10.cell? ⟨w9.heap.size, 0, none⟩ = some (.int .i64 x1.rel) := cell_below (cell_new _ _ _ 0 _ rfl) hb10
  have b11c1_10 : w10.cell? ⟨w9.heap.size, 1, none⟩ = some ((.slice d6aterms x1.terms.length d6cterms)) := cell_below (cell_new _ _ _ 1 _ rfl) hb10
  have d4hvars_10 := d4hvars_9.below' D10
  have d4hvals_10 := d4hvals_9.below' D10
  have d5hvars_10 := d5hvars_9.below' D10
  have d5hvals_10 := d5hvals_9.below' D10
  have d6hterms_10 := d6hterms_9.below' D10
  clear b3c0_9 b3c1_9 b4c0_9 b4c1_9 b5c0_9 b5c1_9 b8c0_9 b8c1_9 b10c0_9 b10c1_9 d4hvars_9 d4hvals_9 d5hvars_9 d5hvals_9 d6hterms_9 b3c0_9n b3c1_9n b4c0_9n b4c1_9n b5c0_9n b5c1_9n b8c0_9n b8c1_9n b10c0_9n b10c1_9n
  have b3c0_10n := fun o => cell_al b3c0_10 o
  have b3c1_10n := fun o => cell_al b3c1_10 o
  have b4c0_10n := fun o => cell_al b4c0_10 o
  have b4c1_10n := fun o => cell_al b4c1_10 o
  have b5c0_10n := fun o => cell_al b5c0_10 o
  have b5c1_10n := fun o => cell_al b5c1_10 o
  have b8c0_10n := fun o => cell_al b8c0_10 o
  have b8c1_10n := fun o => cell_al b8c1_10 o
  have b10c0_10n := fun o => cell_al b10c0_10 o
  have b10c1_10n := fun o => cell_al b10c1_10 o
  have b11c0_10n := fun o => cell_al b11c0_10 o
  have b11c1_10n := fun o => cell_al b11c1_10 o
  have Nb12_d5vars : w10.heap.size ∉ d5fvars := fun h => Nat.lt_irrefl _ (d5hvars_10.lt _ h)
  have Nb12_d5vals : w10.heap.size ∉ d5fvals := fun h => Nat.lt_irrefl _ (d5hvals_10.lt _ h)
  have Nb12_d5 : w10.heap.size ∉ d5fvars ++ d5fvals := fun h => (List.mem_append.1 h).elim Nb12_d5vars Nb12_d5vals
  have Nb12_d6terms : w10.heap.size ∉ d6fterms := fun h => Nat.lt_irrefl _ (d6hterms_10.lt _ h)
  have Nb12_d6 := Nb12_d6terms
  have Nb12_d7vals : w10.heap.size ∉ d7fvals := fun h => Nat.lt_irrefl _ (d7hvals_10.lt _ h)
  have Nb12_d7 := Nb12_d7vals
  go_wp2_with fail
  refine (implMatchR_any x0 x1 x2 _ _ _ _ _ _ _ _ _ (ints.below' d5hvars_10 ?_) (ints.below' d5hvals_10 ?_) (ints.below' d6hterms_10 ?_) (ints.below' d7hvals_10 ?_) nS nx0vals).mono ?_
  · (repeat (first | exact Below.refl _ _ | refine ba ?_ | refine bdr ?_ | refine bs ?_ (by simp)))
  · (repeat (first | exact Below.refl _ _ | refine ba ?_ | refine bdr ?_ | refine bs ?_ (by simp)))
  · (repeat (first | exact Below.refl _ _ | refine ba ?_ | refine bdr ?_ | refine bs ?_ (by simp)))
  · (repeat (first | exact Below.refl _ _ | refine ba ?_ | refine bdr ?_ | refine bs ?_ (by simp)))
  rintro e w11 ⟨d8vvars, d8vvals, d8fvars, d8fvals, rfl, d8hvars_11, d8hvals_11, d8fr, hb11⟩
  obtain ⟨d8avars, d8cvars, rfl⟩ := slR.form d8hvars_11
  obtain ⟨d8avals, d8cvals, rfl⟩ := slR.form d8hvals_11
  have d8F : Fresh w10.heap.size (d8fvars ++ d8fvals) := d8fr.mono (Below.size (B := w10.heap.size) (by (repeat (first | exact Below.refl _ _ | refine ba ?_ | refine bdr ?_ | refine bs ?_ (by simp)))))
  have Xd4fvars_d8 : ∀ g ∈ d4fvars, g ∉ d8fvars ++ d8fvals := fun g hg => d8F.notin (d4hvars_10.lt g hg)
  have Xd4fvals_d8 : ∀ g ∈ d4fvals, g ∉ d8fvars ++ d8fvals := fun g hg => d8F.notin (d4hvals_10.lt g hg)
  have Xd5fvars_d8 : ∀ g ∈ d5fvars, g ∉ d8fvars ++ d8fvals := fun g hg => d8F.notin (d5hvars_10.lt g hg)
  have Xd5fvals_d8 : ∀ g ∈ d5fvals, g ∉ d8fvars ++ d8fvals := fun g hg => d8F.notin (d5hvals_10.lt g hg)
  have Xd6fterms_d8 : ∀ g ∈ d6fterms, g ∉ d8fvars ++ d8fvals := fun g hg => d8F.notin (d6hterms_10.lt g hg)
  have Xd7fvals_d8 : ∀ g ∈ d7fvals, g ∉ d8fvars ++ d8fvals := fun g hg => d8F.notin (d7hvals_10.lt g hg)
  have d8L : ∀ g ∈ d8fvars ++ d8fvals, w.heap.size ≤ g := fun g hg => Nat.le_trans (Below.size B10) (d8F.2 g hg)
  have Nb3_d8 : w.heap.size ∉ d8fvars ++ d8fvals := d8F.notin (lt_of_cell b3c0_10)
  have Nb4_d8 : w.heap.size + 1 ∉ d8fvars ++ d8fvals := d8F.notin (lt_of_cell b4c0_10)
  have Nb5_d8 : w.heap.size + 2 ∉ d8fvars ++ d8fvals := d8F.notin (lt_of_cell b5c0_10)
  have Nb8_d8 : g8 ∉ d8fvars ++ d8fvals := d8F.notin (lt_of_cell b8c0_10)
  have Nb10_d8 : w8.heap.size ∉ d8fvars ++ d8fvals := d8F.notin (lt_of_cell b10c0_10)
  have Nb11_d8 : w9.heap.size ∉ d8fvars ++ d8fvals := d8F.notin (lt_of_cell b11c0_10)
  have Nb12_d8 : w10.heap.size ∉ d8fvars ++ d8fvals := d8fr.notin (by simp)
  have D11 : Below w10.heap.size w10 w11 := bt (by (repeat (first | exact Below.refl _ _ | refine ba ?_ | refine bdr ?_ | refine bs ?_ (by simp)))) hb11
  have B11 : Below w.heap.size w w11 := bt B10 D11
  have b3c0_11 : w11.cell? ⟨w.heap.size, 0, none⟩ = some ((.slice p0vars x0.vars.length q0vars)) := cell_below b3c0_10 D11
  have b3c1_11 : w11.cell? ⟨w.heap.size, 1, none⟩ = some ((.slice p0vals x0.vals.length q0vals)) := cell_below b3c1_10 D11
  have b4c0_11 : w11.cell? ⟨w.heap.size + 1, 0, none⟩ = some (.int .i64 x1.rel) := cell_below b4c0_10 D11
  have b4c1_11 : w11.cell? ⟨w.heap.size + 1, 1, none⟩ = some ((.slice p1terms x1.terms.length q1terms)) := cell_below b4c1_10 D11
  have b5c0_11 : w11.cell? ⟨w.heap.size + 2, 0, none⟩ = some (.int .i64 x2.rel) := cell_below b5c0_10 D11
  have b5c1_11 : w11.cell? ⟨w.heap.size + 2, 1, none⟩ = some ((.slice p2vals x2.vals.length q2vals)) := cell_below b5c1_10 D11
  have b8c0_11 : w11.cell? ⟨g8, 0, none⟩ = some ((.slice d4avars ((matchR x0 x1 x2).1).vars.length d4cvars)) := cell_below b8c0_10 D11
  have b8c1_11 : w11.cell? ⟨g8, 1, none⟩ = some ((.slice d4avals ((matchR x0 x1 x2).1).vals.length d4cvals)) := cell_below b8c1_10 D11
  have b10c0_11 : w11.cell? ⟨w8.heap.size, 0, none⟩ = some ((.slice d5avars x0.vars.length d5cvars)) := cell_below b10c0_10 D11
  have b10c1_11 : w11.cell? ⟨w8.heap.size, 1, none⟩ = some ((.slice d5avals x0.vals.length d5cvals)) := cell_below b10c1_10 D11
  have b11c0_11 : w11.cell? ⟨w9.heap.size, 0, none⟩ = some (.int .i64 x1.rel) := cell_below b11c0_10 D11
  have b11c1_11 : w11.cell? ⟨w9.heap.size, 1, none⟩ = some ((.slice d6aterms x1.terms.length d6cterms)) := cell_below b11c1_10 D11
  have b12c0_11 : w11.cell? ⟨w10.heap.size, 0, none⟩ = some (.int .i64 x2.rel) := cell_below (cell_new _ _ _ 0 _ rfl) hb11
  have b12c1_11 : w11.cell? ⟨w10.heap.size, 1, none⟩ = some ((.slice d7avals x2.vals.length d7cvals)) := cell_below (cell_new _ _ _ 1 _ rfl) hb11
  have d4hvars_11 := d4hvars_10.below' D11
  have d4hvals_11 := d4hvals_10.below' D11
  have d5hvars_11 := d5hvars_10.below' D11
  have d5hvals_11 := d5hvals_10.below' D11
  have d6hterms_11 := d6hterms_10.below' D11
  have d7hvals_11 := d7hvals_10.below' D11
  clear b3c0_10 b3c1_10 b4c0_10 b4c1_10 b5c0_10 b5c1_10 b8c0_10 b8c1_10 b10c0_10 b10c1_10 b11c0_10 b11c1_10 d4hvars_10 d4hvals_10 d5hvars_10 d5hvals_10 d6hterms_10 d7hvals_10 b3c0_10n b3c1_10n b4c0_10n b4c1_10n b5c0_10n b5c1_10n b8c0_10n b8c1_10n b10c0_10n b10c1_10n b11c0_10n b11c1_10n
  have b3c0_11n := fun o => cell_al b3c0_11 o
  have b3c1_11n := fun o => cell_al b3c1_11 o
  have b4c0_11n := fun o => cell_al b4c0_11 o
  have b4c1_11n := fun o => cell_al b4c1_11 o
  have b5c0_11n := fun o => cell_al b5c0_11 o
  have b5c1_11n := fun o => cell_al b5c1_11 o
  have b8c0_11n := fun o => cell_al b8c0_11 o
  have b8c1_11n := fun o => cell_al b8c1_11 o
  have b10c0_11n := fun o => cell_al b10c0_11 o
  have b10c1_11n := fun o => cell_al b10c1_11 o
  have b11c0_11n := fun o => cell_al b11c0_11 o
  have b11c1_11n := fun o => cell_al b11c1_11 o
  have b12c0_11n := fun o => cell_al b12c0_11 o
  have b12c1_11n := fun o => cell_al b12c1_11 o
  have Nb13_d5vars : w11.heap.size ∉ d5fvars := fun h => Nat.lt_irrefl _ (d5hvars_11.lt _ h)
  have Nb13_d5vals : w11.heap.size ∉ d5fvals := fun h => Nat.lt_irrefl _ (d5hvals_11.lt _ h)
  have Nb13_d5 : w11.heap.size ∉ d5fvars ++ d5fvals := fun h => (List.mem_append.1 h).elim Nb13_d5vars Nb13_d5vals
  have Nb13_d6terms : w11.heap.size ∉ d6fterms := fun h => Nat.lt_irrefl _ (d6hterms_11.lt _ h)
  have Nb13_d6 := Nb13_d6terms
  have Nb13_d7vals : w11.heap.size ∉ d7fvals := fun h => Nat.lt_irrefl _ (d7hvals_11.lt _ h)
  have Nb13_d7 := Nb13_d7vals
  have Nb13_d8vars : w11.heap.size ∉ d8fvars := fun h => Nat.lt_irrefl _ (d8hvars_11.lt _ h)
  have Nb13_d8vals : w11.heap.size ∉ d8fvals := fun h => Nat.lt_irrefl _ (d8hvals_11.lt _ h)
  have Nb13_d8 : w11.heap.size ∉ d8fvars ++ d8fvals := fun h => (List.mem_append.1 h).elim Nb13_d8vars Nb13_d8vals
  go_wp2_with fail
  refine (eqBinding_any ((matchR x0 x1 x2).1) ((matchR x0 x1 x2).1) _ _ _ _ _ _ _ _ _ (ints.below' d8hvars_11 ?_) (ints.below' d4hvars_11 ?_) (ints.below' d8hvals_11 ?_) (ints.below' d4hvals_11 ?_)).mono ?_
  · (repeat (first | exact Below.refl _ _ | refine ba ?_ | refine bdr ?_ | refine bs ?_ (by simp)))
  · (repeat (first | exact Below.refl _ _ | refine ba ?_ | refine bdr ?_ | refine bs ?_ (by simp)))
  · (repeat (first | exact Below.refl _ _ | refine ba ?_ | refine bdr ?_ | refine bs ?_ (by simp)))
  · (repeat (first | exact Below.refl _ _ | refine ba ?_ | refine bdr ?_ | refine bs ?_ (by simp)))
  rintro e w12 ⟨rfl, hb12⟩
  have D12 : Below w11.heap.size w11 w12 := bt (by (repeat (first | exact Below.refl _ _ | refine ba ?_ | refine bdr ?_ | refine bs ?_ (by simp)))) hb12
  have B12 : Below w.heap.size w w12 := bt B11 D12
  have b3c0_12 : w12.cell? ⟨w.heap.size, 0, none⟩ = some ((.slice p0vars x0.vars.length q0vars)) := cell_below b3c0_11 D12
  have b3c1_12 : w12.cell? ⟨w.heap.size, 1, none⟩ = some ((.slice p0vals x0.vals.length q0vals)) := cell_below b3c1_11 D12
  have b4c0_12 : w12.cell? ⟨w.heap.size + 1, 0, none⟩ = some (.int .i64 x1.rel) := cell_below b4c0_11 D12
  have b4c1_12 : w12.cell? ⟨w.heap.size + 1, 1, none⟩ = some ((.slice p1terms x1.terms.length q1terms)) := cell_below b4c1_11 D12
  have b5c0_12 : w12.cell? ⟨w.heap.size + 2, 0, none⟩ = some (.int .i64 x2.rel) := cell_below b5c0_11 D12
  have b5c1_12 : w12.cell? ⟨w.heap.size + 2, 1, none⟩ = some ((.slice p2vals x2.vals.length q2vals)) := cell_below b5c1_11 D12
  have b8c0_12 : w12.cell? ⟨g8, 0, none⟩ = some ((.slice d4avars ((matchR x0 x1 x2).1).vars.length d4cvars)) := cell_below b8c0_11 D12
  have b8c1_12 : w12.cell? ⟨g8, 1, none⟩ = some ((.slice d4avals ((matchR x0 x1 x2).1).vals.length d4cvals)) := cell_below b8c1_11 D12
  have b10c0_12 : w12.cell? ⟨w8.heap.size, 0, none⟩ = some ((.slice d5avars x0.vars.length d5cvars)) := cell_below b10c0_11 D12
  have b10c1_12 : w12.cell? ⟨w8.heap.size, 1, none⟩ = some ((.slice d5avals x0.vals.length d5cvals)) := cell_below b10c1_11 D12
  have b11c0_12 : w12.cell? ⟨w9.heap.size, 0, none⟩ = some (.int .i64 x1.rel) := cell_below b11c0_11 D12
  have b11c1_12 : w12.cell? ⟨w9.heap.size, 1, none⟩ = some ((.slice d6aterms x1.terms.length d6cterms)) := cell_below b11c1_11 D12
  have b12c0_12 : w12.cell? ⟨w10.heap.size, 0, none⟩ = some (.int .i64 x2.rel) := cell_below b12c0_11 D12
  have b12c1_12 : w12.cell? ⟨w10.heap.size, 1, none⟩ = some ((.slice d7avals x2.vals.length d7cvals)) := cell_below b12c1_11 D12
  have b13c0_12 : w12.cell? ⟨w11.heap.size, 0, none⟩ = some ((.slice d8avars ((matchR x0 x1 x2).1).vars.length d8cvars)) := cell_below (cell_new _ _ _ 0 _ rfl) hb12
  have b13c1_12 : w12.cell? ⟨w11.heap.size, 1, none⟩ = some ((.slice d8avals ((matchR x0 x1 x2).1).vals.length d8cvals)) := cell_below (cell_new _ _ _ 1 _ rfl) hb12
  have d4hvars_12 := d4hvars_11.below' D12
  have d4hvals_12 := d4hvals_11.below' D12
  have d5hvars_12 := d5hvars_11.below' D12
  have d5hvals_12 := d5hvals_11.below' D12
  have d6hterms_12 := d6hterms_11.below' D12
  have d7hvals_12 := d7hvals_11.below' D12
  have d8hvars_12 := d8hvars_11.below' D12
  have d8hvals_12 := d8hvals_11.below' D12
  clear b3c0_11 b3c1_11 b4c0_11 b4c1_11 b5c0_11 b5c1_11 b8c0_11 b8c1_11 b10c0_11 b10c1_11 b11c0_11 b11c1_11 b12c0_11 b12c1_11 d4hvars_11 d4hvals_11 d5hvars_11 d5hvals_11 d6hterms_11 d7hvals_11 d8hvars_11 d8hvals_11 b3c0_11n b3c1_11n b4c0_11n b4c1_11n b5c0_11n b5c1_11n b8c0_11n b8c1_11n b10c0_11n b10c1_11n b11c0_11n b11c1_11n b12c0_11n b12c1_11n
  go_wp2_with fail
  go_region_held3 (fun w' => w'.cell? ⟨w8.heap.size, 0, none⟩ = some ((.slice d5avars x0.vars.length d5cvars)) ∧ w'.cell? ⟨w8.heap.size, 1, none⟩ = some ((.slice d5avals x0.vals.length d5cvals)) ∧ w'.cell? ⟨w.heap.size, 0, none⟩ = some ((.slice p0vars x0.vars.length q0vars)) ∧ w'.cell? ⟨w.heap.size, 1, none⟩ = some ((.slice p0vals x0.vals.length q0vals))) (first | exact ⟨b10c0_12, b10c1_12, b3c0_12, b3c1_12⟩ | exact ⟨b10c0_13, b10c1_13, b3c0_13, b3c1_13⟩ | exact ⟨b10c0_14, b10c1_14, b3c0_14, b3c1_14⟩)
    (first
      | (go_at_call 8
         with_reducible refine (toBinding_any x0 _ _ _ (intsV.below' h0vars ?_) nx0vars (intsV.below' h0vals ?_) nx0vals).mono ?_
         · (repeat (first | exact B12 | refine ba ?_ | refine bdr ?_ | refine bs ?_ (by simp)))
         · (repeat (first | exact B12 | refine ba ?_ | refine bdr ?_ | refine bs ?_ (by simp)))
         rintro e w13 ⟨d9vvars, d9vvals, d9fvars, d9fvals, rfl, d9hvars_13, d9hvals_13, d9fr, hb13⟩
         obtain ⟨d9avars, d9cvars, rfl⟩ := slR.form d9hvars_13
         obtain ⟨d9avals, d9cvals, rfl⟩ := slR.form d9hvals_13
         have d9F : Fresh w12.heap.size (d9fvars ++ d9fvals) := d9fr.mono (Below.size (B := w12.heap.size) (by (repeat (first | exact Below.refl _ _ | refine ba ?_ | refine bdr ?_ | refine bs ?_ (by simp)))))
         have Xd5fvars_d9 : ∀ g ∈ d5fvars, g ∉ d9fvars ++ d9fvals := fun g hg => d9F.notin (d5hvars_12.lt g hg)
         have Xd5fvals_d9 : ∀ g ∈ d5fvals, g ∉ d9fvars ++ d9fvals := fun g hg => d9F.notin (d5hvals_12.lt g hg)
         have Xd6fterms_d9 : ∀ g ∈ d6fterms, g ∉ d9fvars ++ d9fvals := fun g hg => d9F.notin (d6hterms_12.lt g hg)
         have Xd7fvals_d9 : ∀ g ∈ d7fvals, g ∉ d9fvars ++ d9fvals := fun g hg => d9F.notin (d7hvals_12.lt g hg)
         have Xd8fvars_d9 : ∀ g ∈ d8fvars, g ∉ d9fvars ++ d9fvals := fun g hg => d9F.notin (d8hvars_12.lt g hg)
         have Xd8fvals_d9 : ∀ g ∈ d8fvals, g ∉ d9fvars ++ d9fvals := fun g hg => d9F.notin (d8hvals_12.lt g hg)
         have D13 : Below w12.heap.size w12 w13 := bt (by (repeat (first | exact Below.refl _ _ | refine ba ?_ | refine bdr ?_ | refine bs ?_ (by simp)))) hb13
         have B13 : Below w.heap.size w w13 := bt B12 D13
         have b3c0_13 : w13.cell? ⟨w.heap.size, 0, none⟩ = some ((.slice p0vars x0.vars.length q0vars)) := cell_below b3c0_12 D13
         have b3c1_13 : w13.cell? ⟨w.heap.size, 1, none⟩ = some ((.slice p0vals x0.vals.length q0vals)) := cell_below b3c1_12 D13
         have b4c0_13 : w13.cell? ⟨w.heap.size + 1, 0, none⟩ = some (.int .i64 x1.rel) := cell_below b4c0_12 D13
         have b4c1_13 : w13.cell? ⟨w.heap.size + 1, 1, none⟩ = some ((.slice p1terms x1.terms.length q1terms)) := cell_below b4c1_12 D13
         have b5c0_13 : w13.cell? ⟨w.heap.size + 2, 0, none⟩ = some (.int .i64 x2.rel) := cell_below b5c0_12 D13
         have b5c1_13 : w13.cell? ⟨w.heap.size + 2, 1, none⟩ = some ((.slice p2vals x2.vals.length q2vals)) := cell_below b5c1_12 D13
         have b8c0_13 : w13.cell? ⟨g8, 0, none⟩ = some ((.slice d4avars ((matchR x0 x1 x2).1).vars.length d4cvars)) := cell_below b8c0_12 D13
         have b8c1_13 : w13.cell? ⟨g8, 1, none⟩ = some ((.slice d4avals ((matchR x0 x1 x2).1).vals.length d4cvals)) := cell_below b8c1_12 D13
         have b10c0_13 : w13.cell? ⟨w8.heap.size, 0, none⟩ = some ((.slice d5avars x0.vars.length d5cvars)) := cell_below b10c0_12 D13
         have b10c1_13 : w13.cell? ⟨w8.heap.size, 1, none⟩ = some ((.slice d5avals x0.vals.length d5cvals)) := cell_below b10c1_12 D13
         have b11c0_13 : w13.cell? ⟨w9.heap.size, 0, none⟩ = some (.int .i64 x1.rel) := cell_below b11c0_12 D13
         have b11c1_13 : w13.cell? ⟨w9.heap.size, 1, none⟩ = some ((.slice d6aterms x1.terms.length d6cterms)) := cell_below b11c1_12 D13
         have b12c0_13 : w13.cell? ⟨w10.heap.size, 0, none⟩ = some (.int .i64 x2.rel) := cell_below b12c0_12 D13
         have b12c1_13 : w13.cell? ⟨w10.heap.size, 1, none⟩ = some ((.slice d7avals x2.vals.length d7cvals)) := cell_below b12c1_12 D13
         have b13c0_13 : w13.cell? ⟨w11.heap.size, 0, none⟩ = some ((.slice d8avars ((matchR x0 x1 x2).1).vars.length d8cvars)) := cell_below b13c0_12 D13
         have b13c1_13 : w13.cell? ⟨w11.heap.size, 1, none⟩ = some ((.slice d8avals ((matchR x0 x1 x2).1).vals.length d8cvals)) := cell_below b13c1_12 D13
         have d4hvars_13 := d4hvars_12.below' D13
         have d4hvals_13 := d4hvals_12.below' D13
         have d5hvars_13 := d5hvars_12.below' D13
         have d5hvals_13 := d5hvals_12.below' D13
         have d6hterms_13 := d6hterms_12.below' D13
         have d7hvals_13 := d7hvals_12.below' D13
         have d8hvars_13 := d8hvars_12.below' D13
         have d8hvals_13 := d8hvals_12.below' D13)
      | (go_at_call 12
         with_reducible refine (eqBinding_any x0 x0 _ _ _ _ _ _ _ _ _ (ints.below' d5hvars_13 ?_) (ints.below' d9hvars_13 ?_) (ints.below' d5hvals_13 ?_) (ints.below' d9hvals_13 ?_)).mono ?_
         · (repeat (first | exact Below.refl _ _ | refine ba ?_ | refine bdr ?_ | refine bs ?_ (by simp)))
         · (repeat (first | exact Below.refl _ _ | refine ba ?_ | refine bdr ?_ | refine bs ?_ (by simp)))
         · (repeat (first | exact Below.refl _ _ | refine ba ?_ | refine bdr ?_ | refine bs ?_ (by simp)))
         · (repeat (first | exact Below.refl _ _ | refine ba ?_ | refine bdr ?_ | refine bs ?_ (by simp)))
         rintro e w14 ⟨rfl, hb14⟩
         have D14 : Below w13.heap.size w13 w14 := bt (by (repeat (first | exact Below.refl _ _ | refine ba ?_ | refine bdr ?_ | refine bs ?_ (by simp)))) hb14
         have B14 : Below w.heap.size w w14 := bt B13 D14
         have b3c0_14 : w14.cell? ⟨w.heap.size, 0, none⟩ = some ((.slice p0vars x0.vars.length q0vars)) := cell_below b3c0_13 D14
         have b3c1_14 : w14.cell? ⟨w.heap.size, 1, none⟩ = some ((.slice p0vals x0.vals.length q0vals)) := cell_below b3c1_13 D14
         have b4c0_14 : w14.cell? ⟨w.heap.size + 1, 0, none⟩ = some (.int .i64 x1.rel) := cell_below b4c0_13 D14
         have b4c1_14 : w14.cell? ⟨w.heap.size + 1, 1, none⟩ = some ((.slice p1terms x1.terms.length q1terms)) := cell_below b4c1_13 D14
         have b5c0_14 : w14.cell? ⟨w.heap.size + 2, 0, none⟩ = some (.int .i64 x2.rel) := cell_below b5c0_13 D14
         have b5c1_14 : w14.cell? ⟨w.heap.size + 2, 1, none⟩ = some ((.slice p2vals x2.vals.length q2vals)) := cell_below b5c1_13 D14
         have b8c0_14 : w14.cell? ⟨g8, 0, none⟩ = some ((.slice d4avars ((matchR x0 x1 x2).1).vars.length d4cvars)) := cell_below b8c0_13 D14
         have b8c1_14 : w14.cell? ⟨g8, 1, none⟩ = some ((.slice d4avals ((matchR x0 x1 x2).1).vals.length d4cvals)) := cell_below b8c1_13 D14
         have b10c0_14 : w14.cell? ⟨w8.heap.size, 0, none⟩ = some ((.slice d5avars x0.vars.length d5cvars)) := cell_below b10c0_13 D14
         have b10c1_14 : w14.cell? ⟨w8.heap.size, 1, none⟩ = some ((.slice d5avals x0.vals.length d5cvals)) := cell_below b10c1_13 D14
         have b11c0_14 : w14.cell? ⟨w9.heap.size, 0, none⟩ = some (.int .i64 x1.rel) := cell_below b11c0_13 D14
         have b11c1_14 : w14.cell? ⟨w9.heap.size, 1, none⟩ = some ((.slice d6aterms x1.terms.length d6cterms)) := cell_below b11c1_13 D14
         have b12c0_14 : w14.cell? ⟨w10.heap.size, 0, none⟩ = some (.int .i64 x2.rel) := cell_below b12c0_13 D14
         have b12c1_14 : w14.cell? ⟨w10.heap.size, 1, none⟩ = some ((.slice d7avals x2.vals.length d7cvals)) := cell_below b12c1_13 D14
         have b13c0_14 : w14.cell? ⟨w11.heap.size, 0, none⟩ = some ((.slice d8avars ((matchR x0 x1 x2).1).vars.length d8cvars)) := cell_below b13c0_13 D14
         have b13c1_14 : w14.cell? ⟨w11.heap.size, 1, none⟩ = some ((.slice d8avals ((matchR x0 x1 x2).1).vals.length d8cvals)) := cell_below b13c1_13 D14
         have d4hvars_14 := d4hvars_13.below' D14
         have d4hvals_14 := d4hvals_13.below' D14
         have d5hvars_14 := d5hvars_13.below' D14
         have d5hvals_14 := d5hvals_13.below' D14
         have d6hterms_14 := d6hterms_13.below' D14
         have d7hvals_14 := d7hvals_13.below' D14
         have d8hvars_14 := d8hvars_13.below' D14
         have d8hvals_14 := d8hvals_13.below' D14))
  clear b3c0_12 b3c1_12 b4c0_12 b4c1_12 b5c0_12 b5c1_12 b8c0_12 b8c1_12 b10c0_12 b10c1_12 b11c0_12 b11c1_12 b12c0_12 b12c1_12 b13c0_12 b13c1_12 d4hvars_12 d4hvals_12 d5hvars_12 d5hvals_12 d6hterms_12 d7hvals_12 d8hvars_12 d8hvals_12 b3c0_13 b3c1_13 b4c0_13 b4c1_13 b5c0_13 b5c1_13 b8c0_13 b8c1_13 b10c0_13 b10c1_13 b11c0_13 b11c1_13 b12c0_13 b12c1_13 b13c0_13 b13c1_13 d4hvars_13 d4hvals_13 d5hvars_13 d5hvals_13 d6hterms_13 d7hvals_13 d8hvars_13 d8hvals_13 d9hvars_13 d9hvals_13
  go_wp2_with fail
  go_region_held3 (fun w' => w'.cell? ⟨w9.heap.size, 0, none⟩ = some (.int .i64 x1.rel) ∧ w'.cell? ⟨w9.heap.size, 1, none⟩ = some ((.slice d6aterms x1.terms.length d6cterms)) ∧ w'.cell? ⟨w.heap.size + 1, 0, none⟩ = some (.int .i64 x1.rel) ∧ w'.cell? ⟨w.heap.size + 1, 1, none⟩ = some ((.slice p1terms x1.terms.length q1terms))) (first | exact ⟨b11c0_14, b11c1_14, b4c0_14, b4c1_14⟩ | exact ⟨b11c0_15, b11c1_15, b4c0_15, b4c1_15⟩ | exact ⟨b11c0_16, b11c1_16, b4c0_16, b4c1_16⟩)
    (first
      | (go_at_call 9
         with_reducible refine (toAtom_any x1 _ _ (intsV.below' h1terms ?_) nx1terms).mono ?_
         · (repeat (first | exact B14 | refine ba ?_ | refine bdr ?_ | refine bs ?_ (by simp)))
         rintro e w15 ⟨d10vterms, d10fterms, rfl, d10hterms_15, d10fr, hb15⟩
         obtain ⟨d10aterms, d10cterms, rfl⟩ := slR.form d10hterms_15
         have d10F : Fresh w14.heap.size (d10fterms) := d10fr.mono (Below.size (B := w14.heap.size) (by (repeat (first | exact Below.refl _ _ | refine ba ?_ | refine bdr ?_ | refine bs ?_ (by simp)))))
         have Xd5fvars_d10 : ∀ g ∈ d5fvars, g ∉ d10fterms := fun g hg => d10F.notin (d5hvars_14.lt g hg)
         have Xd5fvals_d10 : ∀ g ∈ d5fvals, g ∉ d10fterms := fun g hg => d10F.notin (d5hvals_14.lt g hg)
         have Xd6fterms_d10 : ∀ g ∈ d6fterms, g ∉ d10fterms := fun g hg => d10F.notin (d6hterms_14.lt g hg)
         have Xd7fvals_d10 : ∀ g ∈ d7fvals, g ∉ d10fterms := fun g hg => d10F.notin (d7hvals_14.lt g hg)
         have Xd8fvars_d10 : ∀ g ∈ d8fvars, g ∉ d10fterms := fun g hg => d10F.notin (d8hvars_14.lt g hg)
         have Xd8fvals_d10 : ∀ g ∈ d8fvals, g ∉ d10fterms := fun g hg => d10F.notin (d8hvals_14.lt g hg)
         have D15 : Below w14.heap.size w14 w15 := bt (by (repeat (first | exact Below.refl _ _ | refine ba ?_ | refine bdr ?_ | refine bs ?_ (by simp)))) hb15
         have B15 : Below w.heap.size w w15 := bt B14 D15
         have b3c0_15 : w15.cell? ⟨w.heap.size, 0, none⟩ = some ((.slice p0vars x0.vars.length q0vars)) := cell_below b3c0_14 D15
         have b3c1_15 : w15.cell? ⟨w.heap.size, 1, none⟩ = some ((.slice p0vals x0.vals.length q0vals)) := cell_below b3c1_14 D15
         have b4c0_15 : w15.cell? ⟨w.heap.size + 1, 0, none⟩ = some (.int .i64 x1.rel) := cell_below b4c0_14 D15
         have b4c1_15 : w15.cell? ⟨w.heap.size + 1, 1, none⟩ = some ((.slice p1terms x1.terms.length q1terms)) := cell_below b4c1_14 D15
         have b5c0_15 : w15.cell? ⟨w.heap.size + 2, 0, none⟩ = some (.int .i64 x2.rel) := cell_below b5c0_14 D15
         have b5c1_15 : w15.cell? ⟨w.heap.size + 2, 1, none⟩ = some ((.slice p2vals x2.vals.length q2vals)) := cell_below b5c1_14 D15
         have b8c0_15 : w15.cell? ⟨g8, 0, none⟩ = some ((.slice d4avars ((matchR x0 x1 x2).1).vars.length d4cvars)) := cell_below b8c0_14 D15
         have b8c1_15 : w15.cell? ⟨g8, 1, none⟩ = some ((.slice d4avals ((matchR x0 x1 x2).1).vals.length d4cvals)) := cell_below b8c1_14 D15
         have b10c0_15 : w15.cell? ⟨w8.heap.size, 0, none⟩ = some ((.slice d5avars x0.vars.length d5cvars)) := cell_below b10c0_14 D15
         have b10c1_15 : w15.cell? ⟨w8.heap.size, 1, none⟩ = some ((.slice d5avals x0.vals.length d5cvals)) := cell_below b10c1_14 D15
         have b11c0_15 : w15.cell? ⟨w9.heap.size, 0, none⟩ = some (.int .i64 x1.rel) := cell_below b11c0_14 D15
         have b11c1_15 : w15.cell? ⟨w9.heap.size, 1, none⟩ = some ((.slice d6aterms x1.terms.length d6cterms)) := cell_below b11c1_14 D15
         have b12c0_15 : w15.cell? ⟨w10.heap.size, 0, none⟩ = some (.int .i64 x2.rel) := cell_below b12c0_14 D15
         have b12c1_15 : w15.cell? ⟨w10.heap.size, 1, none⟩ = some ((.slice d7avals x2.vals.length d7cvals)) := cell_below b12c1_14 D15
         have b13c0_15 : w15.cell? ⟨w11.heap.size, 0, none⟩ = some ((.slice d8avars ((matchR x0 x1 x2).1).vars.length d8cvars)) := cell_below b13c0_14 D15
         have b13c1_15 : w15.cell? ⟨w11.heap.size, 1, none⟩ = some ((.slice d8avals ((matchR x0 x1 x2).1).vals.length d8cvals)) := cell_below b13c1_14 D15
         have d4hvars_15 := d4hvars_14.below' D15
         have d4hvals_15 := d4hvals_14.below' D15
         have d5hvars_15 := d5hvars_14.below' D15
         have d5hvals_15 := d5hvals_14.below' D15
         have d6hterms_15 := d6hterms_14.below' D15
         have d7hvals_15 := d7hvals_14.below' D15
         have d8hvars_15 := d8hvars_14.below' D15
         have d8hvals_15 := d8hvals_14.below' D15)
      | (go_at_call 13
         with_reducible refine (eqAtom_any x1 x1 _ _ _ _ _ (ints.below' d6hterms_15 ?_) (ints.below' d10hterms_15 ?_)).mono ?_
         · (repeat (first | exact Below.refl _ _ | refine ba ?_ | refine bdr ?_ | refine bs ?_ (by simp)))
         · (repeat (first | exact Below.refl _ _ | refine ba ?_ | refine bdr ?_ | refine bs ?_ (by simp)))
         rintro e w16 ⟨rfl, hb16⟩
         have D16 : Below w15.heap.size w15 w16 := bt (by (repeat (first | exact Below.refl _ _ | refine ba ?_ | refine bdr ?_ | refine bs ?_ (by simp)))) hb16
         have B16 : Below w.heap.size w w16 := bt B15 D16
         have b3c0_16 : w16.cell? ⟨w.heap.size, 0, none⟩ = some ((.slice p0vars x0.vars.length q0vars)) := cell_below b3c0_15 D16
         have b3c1_16 : w16.cell? ⟨w.heap.size, 1, none⟩ = some ((.slice p0vals x0.vals.length q0vals)) := cell_below b3c1_15 D16
         have b4c0_16 : w16.cell? ⟨w.heap.size + 1, 0, none⟩ = some (.int .i64 x1.rel) := cell_below b4c0_15 D16
         have b4c1_16 : w16.cell? ⟨w.heap.size + 1, 1, none⟩ = some ((.slice p1terms x1.terms.length q1terms)) := cell_below b4c1_15 D16
         have b5c0_16 : w16.cell? ⟨w.heap.size + 2, 0, none⟩ = some (.int .i64 x2.rel) := cell_below b5c0_15 D16
         have b5c1_16 : w16.cell? ⟨w.heap.size + 2, 1, none⟩ = some ((.slice p2vals x2.vals.length q2vals)) := cell_below b5c1_15 D16
         have b8c0_16 : w16.cell? ⟨g8, 0, none⟩ = some ((.slice d4avars ((matchR x0 x1 x2).1).vars.length d4cvars)) := cell_below b8c0_15 D16
         have b8c1_16 : w16.cell? ⟨g8, 1, none⟩ = some ((.slice d4avals ((matchR x0 x1 x2).1).vals.length d4cvals)) := cell_below b8c1_15 D16
         have b10c0_16 : w16.cell? ⟨w8.heap.size, 0, none⟩ = some ((.slice d5avars x0.vars.length d5cvars)) := cell_below b10c0_15 D16
         have b10c1_16 : w16.cell? ⟨w8.heap.size, 1, none⟩ = some ((.slice d5avals x0.vals.length d5cvals)) := cell_below b10c1_15 D16
         have b11c0_16 : w16.cell? ⟨w9.heap.size, 0, none⟩ = some (.int .i64 x1.rel) := cell_below b11c0_15 D16
         have b11c1_16 : w16.cell? ⟨w9.heap.size, 1, none⟩ = some ((.slice d6aterms x1.terms.length d6cterms)) := cell_below b11c1_15 D16
         have b12c0_16 : w16.cell? ⟨w10.heap.size, 0, none⟩ = some (.int .i64 x2.rel) := cell_below b12c0_15 D16
         have b12c1_16 : w16.cell? ⟨w10.heap.size, 1, none⟩ = some ((.slice d7avals x2.vals.length d7cvals)) := cell_below b12c1_15 D16
         have b13c0_16 : w16.cell? ⟨w11.heap.size, 0, none⟩ = some ((.slice d8avars ((matchR x0 x1 x2).1).vars.length d8cvars)) := cell_below b13c0_15 D16
         have b13c1_16 : w16.cell? ⟨w11.heap.size, 1, none⟩ = some ((.slice d8avals ((matchR x0 x1 x2).1).vals.length d8cvals)) := cell_below b13c1_15 D16
         have d4hvars_16 := d4hvars_15.below' D16
         have d4hvals_16 := d4hvals_15.below' D16
         have d5hvars_16 := d5hvars_15.below' D16
         have d5hvals_16 := d5hvals_15.below' D16
         have d6hterms_16 := d6hterms_15.below' D16
         have d7hvals_16 := d7hvals_15.below' D16
         have d8hvars_16 := d8hvars_15.below' D16
         have d8hvals_16 := d8hvals_15.below' D16))
  clear b3c0_14 b3c1_14 b4c0_14 b4c1_14 b5c0_14 b5c1_14 b8c0_14 b8c1_14 b10c0_14 b10c1_14 b11c0_14 b11c1_14 b12c0_14 b12c1_14 b13c0_14 b13c1_14 d4hvars_14 d4hvals_14 d5hvars_14 d5hvals_14 d6hterms_14 d7hvals_14 d8hvars_14 d8hvals_14 b3c0_15 b3c1_15 b4c0_15 b4c1_15 b5c0_15 b5c1_15 b8c0_15 b8c1_15 b10c0_15 b10c1_15 b11c0_15 b11c1_15 b12c0_15 b12c1_15 b13c0_15 b13c1_15 d4hvars_15 d4hvals_15 d5hvars_15 d5hvals_15 d6hterms_15 d7hvals_15 d8hvars_15 d8hvals_15 d10hterms_15
  go_wp2_with fail
  go_region_held3 (fun w' => w'.cell? ⟨w10.heap.size, 0, none⟩ = some (.int .i64 x2.rel) ∧ w'.cell? ⟨w10.heap.size, 1, none⟩ = some ((.slice d7avals x2.vals.length d7cvals)) ∧ w'.cell? ⟨w.heap.size + 2, 0, none⟩ = some (.int .i64 x2.rel) ∧ w'.cell? ⟨w.heap.size + 2, 1, none⟩ = some ((.slice p2vals x2.vals.length q2vals))) (first | exact ⟨b12c0_16, b12c1_16, b5c0_16, b5c1_16⟩ | exact ⟨b12c0_17, b12c1_17, b5c0_17, b5c1_17⟩ | exact ⟨b12c0_18, b12c1_18, b5c0_18, b5c1_18⟩)
    (first
      | (go_at_call 10
         with_reducible refine (toFact_any x2 _ _ (intsV.below' h2vals ?_) nx2vals).mono ?_
         · (repeat (first | exact B16 | refine ba ?_ | refine bdr ?_ | refine bs ?_ (by simp)))
         rintro e w17 ⟨d11vvals, d11fvals, rfl, d11hvals_17, d11fr, hb17⟩
         obtain ⟨d11avals, d11cvals, rfl⟩ := slR.form d11hvals_17
         have d11F : Fresh w16.heap.size (d11fvals) := d11fr.mono (Below.size (B := w16.heap.size) (by (repeat (first | exact Below.refl _ _ | refine ba ?_ | refine bdr ?_ | refine bs ?_ (by simp)))))
         have Xd5fvars_d11 : ∀ g ∈ d5fvars, g ∉ d11fvals := fun g hg => d11F.notin (d5hvars_16.lt g hg)
         have Xd5fvals_d11 : ∀ g ∈ d5fvals, g ∉ d11fvals := fun g hg => d11F.notin (d5hvals_16.lt g hg)
         have Xd6fterms_d11 : ∀ g ∈ d6fterms, g ∉ d11fvals := fun g hg => d11F.notin (d6hterms_16.lt g hg)
         have Xd7fvals_d11 : ∀ g ∈ d7fvals, g ∉ d11fvals := fun g hg => d11F.notin (d7hvals_16.lt g hg)
         have Xd8fvars_d11 : ∀ g ∈ d8fvars, g ∉ d11fvals := fun g hg => d11F.notin (d8hvars_16.lt g hg)
         have Xd8fvals_d11 : ∀ g ∈ d8fvals, g ∉ d11fvals := fun g hg => d11F.notin (d8hvals_16.lt g hg)
         have D17 : Below w16.heap.size w16 w17 := bt (by (repeat (first | exact Below.refl _ _ | refine ba ?_ | refine bdr ?_ | refine bs ?_ (by simp)))) hb17
         have B17 : Below w.heap.size w w17 := bt B16 D17
         have b3c0_17 : w17.cell? ⟨w.heap.size, 0, none⟩ = some ((.slice p0vars x0.vars.length q0vars)) := cell_below b3c0_16 D17
         have b3c1_17 : w17.cell? ⟨w.heap.size, 1, none⟩ = some ((.slice p0vals x0.vals.length q0vals)) := cell_below b3c1_16 D17
         have b4c0_17 : w17.cell? ⟨w.heap.size + 1, 0, none⟩ = some (.int .i64 x1.rel) := cell_below b4c0_16 D17
         have b4c1_17 : w17.cell? ⟨w.heap.size + 1, 1, none⟩ = some ((.slice p1terms x1.terms.length q1terms)) := cell_below b4c1_16 D17
         have b5c0_17 : w17.cell? ⟨w.heap.size + 2, 0, none⟩ = some (.int .i64 x2.rel) := cell_below b5c0_16 D17
         have b5c1_17 : w17.cell? ⟨w.heap.size + 2, 1, none⟩ = some ((.slice p2vals x2.vals.length q2vals)) := cell_below b5c1_16 D17
         have b8c0_17 : w17.cell? ⟨g8, 0, none⟩ = some ((.slice d4avars ((matchR x0 x1 x2).1).vars.length d4cvars)) := cell_below b8c0_16 D17
         have b8c1_17 : w17.cell? ⟨g8, 1, none⟩ = some ((.slice d4avals ((matchR x0 x1 x2).1).vals.length d4cvals)) := cell_below b8c1_16 D17
         have b10c0_17 : w17.cell? ⟨w8.heap.size, 0, none⟩ = some ((.slice d5avars x0.vars.length d5cvars)) := cell_below b10c0_16 D17
         have b10c1_17 : w17.cell? ⟨w8.heap.size, 1, none⟩ = some ((.slice d5avals x0.vals.length d5cvals)) := cell_below b10c1_16 D17
         have b11c0_17 : w17.cell? ⟨w9.heap.size, 0, none⟩ = some (.int .i64 x1.rel) := cell_below b11c0_16 D17
         have b11c1_17 : w17.cell? ⟨w9.heap.size, 1, none⟩ = some ((.slice d6aterms x1.terms.length d6cterms)) := cell_below b11c1_16 D17
         have b12c0_17 : w17.cell? ⟨w10.heap.size, 0, none⟩ = some (.int .i64 x2.rel) := cell_below b12c0_16 D17
         have b12c1_17 : w17.cell? ⟨w10.heap.size, 1, none⟩ = some ((.slice d7avals x2.vals.length d7cvals)) := cell_below b12c1_16 D17
         have b13c0_17 : w17.cell? ⟨w11.heap.size, 0, none⟩ = some ((.slice d8avars ((matchR x0 x1 x2).1).vars.length d8cvars)) := cell_below b13c0_16 D17
         have b13c1_17 : w17.cell? ⟨w11.heap.size, 1, none⟩ = some ((.slice d8avals ((matchR x0 x1 x2).1).vals.length d8cvals)) := cell_below b13c1_16 D17
         have d4hvars_17 := d4hvars_16.below' D17
         have d4hvals_17 := d4hvals_16.below' D17
         have d5hvars_17 := d5hvars_16.below' D17
         have d5hvals_17 := d5hvals_16.below' D17
         have d6hterms_17 := d6hterms_16.below' D17
         have d7hvals_17 := d7hvals_16.below' D17
         have d8hvars_17 := d8hvars_16.below' D17
         have d8hvals_17 := d8hvals_16.below' D17)
      | (go_at_call 14
         with_reducible refine (eqFact_any x2 x2 _ _ _ _ _ (ints.below' d7hvals_17 ?_) (ints.below' d11hvals_17 ?_)).mono ?_
         · (repeat (first | exact Below.refl _ _ | refine ba ?_ | refine bdr ?_ | refine bs ?_ (by simp)))
         · (repeat (first | exact Below.refl _ _ | refine ba ?_ | refine bdr ?_ | refine bs ?_ (by simp)))
         rintro e w18 ⟨rfl, hb18⟩
         have D18 : Below w17.heap.size w17 w18 := bt (by (repeat (first | exact Below.refl _ _ | refine ba ?_ | refine bdr ?_ | refine bs ?_ (by simp)))) hb18
         have B18 : Below w.heap.size w w18 := bt B17 D18
         have b3c0_18 : w18.cell? ⟨w.heap.size, 0, none⟩ = some ((.slice p0vars x0.vars.length q0vars)) := cell_below b3c0_17 D18
         have b3c1_18 : w18.cell? ⟨w.heap.size, 1, none⟩ = some ((.slice p0vals x0.vals.length q0vals)) := cell_below b3c1_17 D18
         have b4c0_18 : w18.cell? ⟨w.heap.size + 1, 0, none⟩ = some (.int .i64 x1.rel) := cell_below b4c0_17 D18
         have b4c1_18 : w18.cell? ⟨w.heap.size + 1, 1, none⟩ = some ((.slice p1terms x1.terms.length q1terms)) := cell_below b4c1_17 D18
         have b5c0_18 : w18.cell? ⟨w.heap.size + 2, 0, none⟩ = some (.int .i64 x2.rel) := cell_below b5c0_17 D18
         have b5c1_18 : w18.cell? ⟨w.heap.size + 2, 1, none⟩ = some ((.slice p2vals x2.vals.length q2vals)) := cell_below b5c1_17 D18
         have b8c0_18 : w18.cell? ⟨g8, 0, none⟩ = some ((.slice d4avars ((matchR x0 x1 x2).1).vars.length d4cvars)) := cell_below b8c0_17 D18
         have b8c1_18 : w18.cell? ⟨g8, 1, none⟩ = some ((.slice d4avals ((matchR x0 x1 x2).1).vals.length d4cvals)) := cell_below b8c1_17 D18
         have b10c0_18 : w18.cell? ⟨w8.heap.size, 0, none⟩ = some ((.slice d5avars x0.vars.length d5cvars)) := cell_below b10c0_17 D18
         have b10c1_18 : w18.cell? ⟨w8.heap.size, 1, none⟩ = some ((.slice d5avals x0.vals.length d5cvals)) := cell_below b10c1_17 D18
         have b11c0_18 : w18.cell? ⟨w9.heap.size, 0, none⟩ = some (.int .i64 x1.rel) := cell_below b11c0_17 D18
         have b11c1_18 : w18.cell? ⟨w9.heap.size, 1, none⟩ = some ((.slice d6aterms x1.terms.length d6cterms)) := cell_below b11c1_17 D18
         have b12c0_18 : w18.cell? ⟨w10.heap.size, 0, none⟩ = some (.int .i64 x2.rel) := cell_below b12c0_17 D18
         have b12c1_18 : w18.cell? ⟨w10.heap.size, 1, none⟩ = some ((.slice d7avals x2.vals.length d7cvals)) := cell_below b12c1_17 D18
         have b13c0_18 : w18.cell? ⟨w11.heap.size, 0, none⟩ = some ((.slice d8avars ((matchR x0 x1 x2).1).vars.length d8cvars)) := cell_below b13c0_17 D18
         have b13c1_18 : w18.cell? ⟨w11.heap.size, 1, none⟩ = some ((.slice d8avals ((matchR x0 x1 x2).1).vals.length d8cvals)) := cell_below b13c1_17 D18
         have d4hvars_18 := d4hvars_17.below' D18
         have d4hvals_18 := d4hvals_17.below' D18
         have d5hvars_18 := d5hvars_17.below' D18
         have d5hvals_18 := d5hvals_17.below' D18
         have d6hterms_18 := d6hterms_17.below' D18
         have d7hvals_18 := d7hvals_17.below' D18
         have d8hvars_18 := d8hvars_17.below' D18
         have d8hvals_18 := d8hvals_17.below' D18))
  clear b3c0_16 b3c1_16 b4c0_16 b4c1_16 b5c0_16 b5c1_16 b8c0_16 b8c1_16 b10c0_16 b10c1_16 b11c0_16 b11c1_16 b12c0_16 b12c1_16 b13c0_16 b13c1_16 d4hvars_16 d4hvals_16 d5hvars_16 d5hvals_16 d6hterms_16 d7hvals_16 d8hvars_16 d8hvals_16 b3c0_17 b3c1_17 b4c0_17 b4c1_17 b5c0_17 b5c1_17 b8c0_17 b8c1_17 b10c0_17 b10c1_17 b11c0_17 b11c1_17 b12c0_17 b12c1_17 b13c0_17 b13c1_17 d4hvars_17 d4hvals_17 d5hvars_17 d5hvals_17 d6hterms_17 d7hvals_17 d8hvars_17 d8hvals_17 d11hvals_17
  go_wp2_with fail
  refine (markBinding_any x0 _ _ d5fvars d5fvals (1) _ (ints.below' d5hvars_18 ?_) (ints.below' d5hvals_18 ?_) d5F.1 (by omega) (by omega)).mono ?_
  · (repeat (first | exact Below.refl _ _ | refine ba ?_ | refine bdr ?_ | refine bs ?_ (by simp)))
  · (repeat (first | exact Below.refl _ _ | refine ba ?_ | refine bdr ?_ | refine bs ?_ (by simp)))
  rintro e w19 ⟨rfl, d5hvarsm, d5hvalsm, hw19⟩
  have B19 : Below w.heap.size w w19 := bw B18 hw19 d5L
  have b3c0_19 : w19.cell? ⟨w.heap.size, 0, none⟩ = some ((.slice p0vars x0.vars.length q0vars)) := (hw19.cellAt (lt_of_cell b3c0_18) Nb3_d5).trans b3c0_18
  have b3c1_19 : w19.cell? ⟨w.heap.size, 1, none⟩ = some ((.slice p0vals x0.vals.length q0vals)) := (hw19.cellAt (lt_of_cell b3c1_18) Nb3_d5).trans b3c1_18
  have b4c0_19 : w19.cell? ⟨w.heap.size + 1, 0, none⟩ = some (.int .i64 x1.rel) := (hw19.cellAt (lt_of_cell b4c0_18) Nb4_d5).trans b4c0_18
  have b4c1_19 : w19.cell? ⟨w.heap.size + 1, 1, none⟩ = some ((.slice p1terms x1.terms.length q1terms)) := (hw19.cellAt (lt_of_cell b4c1_18) Nb4_d5).trans b4c1_18
  have b5c0_19 : w19.cell? ⟨w.heap.size + 2, 0, none⟩ = some (.int .i64 x2.rel) := (hw19.cellAt (lt_of_cell b5c0_18) Nb5_d5).trans b5c0_18
  have b5c1_19 : w19.cell? ⟨w.heap.size + 2, 1, none⟩ = some ((.slice p2vals x2.vals.length q2vals)) := (hw19.cellAt (lt_of_cell b5c1_18) Nb5_d5).trans b5c1_18
  have b8c0_19 : w19.cell? ⟨g8, 0, none⟩ = some ((.slice d4avars ((matchR x0 x1 x2).1).vars.length d4cvars)) := (hw19.cellAt (lt_of_cell b8c0_18) Nb8_d5).trans b8c0_18
  have b8c1_19 : w19.cell? ⟨g8, 1, none⟩ = some ((.slice d4avals ((matchR x0 x1 x2).1).vals.length d4cvals)) := (hw19.cellAt (lt_of_cell b8c1_18) Nb8_d5).trans b8c1_18
  have b11c0_19 : w19.cell? ⟨w9.heap.size, 0, none⟩ = some (.int .i64 x1.rel) := (hw19.cellAt (lt_of_cell b11c0_18) Nb11_d5).trans b11c0_18
  have b11c1_19 : w19.cell? ⟨w9.heap.size, 1, none⟩ = some ((.slice d6aterms x1.terms.length d6cterms)) := (hw19.cellAt (lt_of_cell b11c1_18) Nb11_d5).trans b11c1_18
  have b12c0_19 : w19.cell? ⟨w10.heap.size, 0, none⟩ = some (.int .i64 x2.rel) := (hw19.cellAt (lt_of_cell b12c0_18) Nb12_d5).trans b12c0_18
  have b12c1_19 : w19.cell? ⟨w10.heap.size, 1, none⟩ = some ((.slice d7avals x2.vals.length d7cvals)) := (hw19.cellAt (lt_of_cell b12c1_18) Nb12_d5).trans b12c1_18
  have b13c0_19 : w19.cell? ⟨w11.heap.size, 0, none⟩ = some ((.slice d8avars ((matchR x0 x1 x2).1).vars.length d8cvars)) := (hw19.cellAt (lt_of_cell b13c0_18) Nb13_d5).trans b13c0_18
  have b13c1_19 : w19.cell? ⟨w11.heap.size, 1, none⟩ = some ((.slice d8avals ((matchR x0 x1 x2).1).vals.length d8cvals)) := (hw19.cellAt (lt_of_cell b13c1_18) Nb13_d5).trans b13c1_18
  have d4hvars_19 := ints.frame d4hvars_18 fun g hg => hw19.block g (d4hvars_18.lt g hg) (Xd4fvars_d5 g hg)
  have d4hvals_19 := ints.frame d4hvals_18 fun g hg => hw19.block g (d4hvals_18.lt g hg) (Xd4fvals_d5 g hg)
  have d6hterms_19 := ints.frame d6hterms_18 fun g hg => hw19.block g (d6hterms_18.lt g hg) ((fun hgx => (List.mem_append.1 hgx).elim (fun h => Xd5fvars_d6 g h (by simp [hg])) (fun h => Xd5fvals_d6 g h (by simp [hg]))))
  have d7hvals_19 := ints.frame d7hvals_18 fun g hg => hw19.block g (d7hvals_18.lt g hg) ((fun hgx => (List.mem_append.1 hgx).elim (fun h => Xd5fvars_d7 g h (by simp [hg])) (fun h => Xd5fvals_d7 g h (by simp [hg]))))
  have d8hvars_19 := ints.frame d8hvars_18 fun g hg => hw19.block g (d8hvars_18.lt g hg) ((fun hgx => (List.mem_append.1 hgx).elim (fun h => Xd5fvars_d8 g h (by simp [hg])) (fun h => Xd5fvals_d8 g h (by simp [hg]))))
  have d8hvals_19 := ints.frame d8hvals_18 fun g hg => hw19.block g (d8hvals_18.lt g hg) ((fun hgx => (List.mem_append.1 hgx).elim (fun h => Xd5fvars_d8 g h (by simp [hg])) (fun h => Xd5fvals_d8 g h (by simp [hg]))))
  clear b3c0_18 b3c1_18 b4c0_18 b4c1_18 b5c0_18 b5c1_18 b8c0_18 b8c1_18 b10c0_18 b10c1_18 b11c0_18 b11c1_18 b12c0_18 b12c1_18 b13c0_18 b13c1_18 d4hvars_18 d4hvals_18 d5hvars_18 d5hvals_18 d6hterms_18 d7hvals_18 d8hvars_18 d8hvals_18
  go_wp2_with fail
  refine (markAtom_any x1 _ d6fterms (1 + (x0.vars.length : Nat) + (x0.vals.length : Nat)) _ (ints.below' d6hterms_19 ?_) d6F.1 (by omega) (by omega)).mono ?_
  · (repeat (first | exact Below.refl _ _ | refine ba ?_ | refine bdr ?_ | refine bs ?_ (by simp)))
  rintro e w20 ⟨rfl, d6htermsm, hw20⟩
  have B20 : Below w.heap.size w w20 := bw B19 hw20 d6L
  have b3c0_20 : w20.cell? ⟨w.heap.size, 0, none⟩ = some ((.slice p0vars x0.vars.length q0vars)) := (hw20.cellAt (lt_of_cell b3c0_19) Nb3_d6).trans b3c0_19
  have b3c1_20 : w20.cell? ⟨w.heap.size, 1, none⟩ = some ((.slice p0vals x0.vals.length q0vals)) := (hw20.cellAt (lt_of_cell b3c1_19) Nb3_d6).trans b3c1_19
  have b4c0_20 : w20.cell? ⟨w.heap.size + 1, 0, none⟩ = some (.int .i64 x1.rel) := (hw20.cellAt (lt_of_cell b4c0_19) Nb4_d6).trans b4c0_19
  have b4c1_20 : w20.cell? ⟨w.heap.size + 1, 1, none⟩ = some ((.slice p1terms x1.terms.length q1terms)) := (hw20.cellAt (lt_of_cell b4c1_19) Nb4_d6).trans b4c1_19
  have b5c0_20 : w20.cell? ⟨w.heap.size + 2, 0, none⟩ = some (.int .i64 x2.rel) := (hw20.cellAt (lt_of_cell b5c0_19) Nb5_d6).trans b5c0_19
  have b5c1_20 : w20.cell? ⟨w.heap.size + 2, 1, none⟩ = some ((.slice p2vals x2.vals.length q2vals)) := (hw20.cellAt (lt_of_cell b5c1_19) Nb5_d6).trans b5c1_19
  have b8c0_20 : w20.cell? ⟨g8, 0, none⟩ = some ((.slice d4avars ((matchR x0 x1 x2).1).vars.length d4cvars)) := (hw20.cellAt (lt_of_cell b8c0_19) Nb8_d6).trans b8c0_19
  have b8c1_20 : w20.cell? ⟨g8, 1, none⟩ = some ((.slice d4avals ((matchR x0 x1 x2).1).vals.length d4cvals)) := (hw20.cellAt (lt_of_cell b8c1_19) Nb8_d6).trans b8c1_19
  have b12c0_20 : w20.cell? ⟨w10.heap.size, 0, none⟩ = some (.int .i64 x2.rel) := (hw20.cellAt (lt_of_cell b12c0_19) Nb12_d6).trans b12c0_19
  have b12c1_20 : w20.cell? ⟨w10.heap.size, 1, none⟩ = some ((.slice d7avals x2.vals.length d7cvals)) := (hw20.cellAt (lt_of_cell b12c1_19) Nb12_d6).trans b12c1_19
  have b13c0_20 : w20.cell? ⟨w11.heap.size, 0, none⟩ = some ((.slice d8avars ((matchR x0 x1 x2).1).vars.length d8cvars)) := (hw20.cellAt (lt_of_cell b13c0_19) Nb13_d6).trans b13c0_19
  have b13c1_20 : w20.cell? ⟨w11.heap.size, 1, none⟩ = some ((.slice d8avals ((matchR x0 x1 x2).1).vals.length d8cvals)) := (hw20.cellAt (lt_of_cell b13c1_19) Nb13_d6).trans b13c1_19
  have d4hvars_20 := ints.frame d4hvars_19 fun g hg => hw20.block g (d4hvars_19.lt g hg) (Xd4fvars_d6 g hg)
  have d4hvals_20 := ints.frame d4hvals_19 fun g hg => hw20.block g (d4hvals_19.lt g hg) (Xd4fvals_d6 g hg)
  have d7hvals_20 := ints.frame d7hvals_19 fun g hg => hw20.block g (d7hvals_19.lt g hg) ((fun hgx => Xd6fterms_d7 g hgx (by simp [hg])))
  have d8hvars_20 := ints.frame d8hvars_19 fun g hg => hw20.block g (d8hvars_19.lt g hg) ((fun hgx => Xd6fterms_d8 g hgx (by simp [hg])))
  have d8hvals_20 := ints.frame d8hvals_19 fun g hg => hw20.block g (d8hvals_19.lt g hg) ((fun hgx => Xd6fterms_d8 g hgx (by simp [hg])))
  clear b3c0_19 b3c1_19 b4c0_19 b4c1_19 b5c0_19 b5c1_19 b8c0_19 b8c1_19 b11c0_19 b11c1_19 b12c0_19 b12c1_19 b13c0_19 b13c1_19 d4hvars_19 d4hvals_19 d6hterms_19 d7hvals_19 d8hvars_19 d8hvals_19
  go_wp2_with fail
  refine (markFact_any x2 _ d7fvals (1 + (x0.vars.length : Nat) + (x0.vals.length : Nat) + (x1.terms.length : Nat)) _ (ints.below' d7hvals_20 ?_) d7F.1 (by omega) (by omega)).mono ?_
  · (repeat (first | exact Below.refl _ _ | refine ba ?_ | refine bdr ?_ | refine bs ?_ (by simp)))
  rintro e w21 ⟨rfl, d7hvalsm, hw21⟩
  have B21 : Below w.heap.size w w21 := bw B20 hw21 d7L
  have b3c0_21 : w21.cell? ⟨w.heap.size, 0, none⟩ = some ((.slice p0vars x0.vars.length q0vars)) := (hw21.cellAt (lt_of_cell b3c0_20) Nb3_d7).trans b3c0_20
  have b3c1_21 : w21.cell? ⟨w.heap.size, 1, none⟩ = some ((.slice p0vals x0.vals.length q0vals)) := (hw21.cellAt (lt_of_cell b3c1_20) Nb3_d7).trans b3c1_20
  have b4c0_21 : w21.cell? ⟨w.heap.size + 1, 0, none⟩ = some (.int .i64 x1.rel) := (hw21.cellAt (lt_of_cell b4c0_20) Nb4_d7).trans b4c0_20
  have b4c1_21 : w21.cell? ⟨w.heap.size + 1, 1, none⟩ = some ((.slice p1terms x1.terms.length q1terms)) := (hw21.cellAt (lt_of_cell b4c1_20) Nb4_d7).trans b4c1_20
  have b5c0_21 : w21.cell? ⟨w.heap.size + 2, 0, none⟩ = some (.int .i64 x2.rel) := (hw21.cellAt (lt_of_cell b5c0_20) Nb5_d7).trans b5c0_20
  have b5c1_21 : w21.cell? ⟨w.heap.size + 2, 1, none⟩ = some ((.slice p2vals x2.vals.length q2vals)) := (hw21.cellAt (lt_of_cell b5c1_20) Nb5_d7).trans b5c1_20
  have b8c0_21 : w21.cell? ⟨g8, 0, none⟩ = some ((.slice d4avars ((matchR x0 x1 x2).1).vars.length d4cvars)) := (hw21.cellAt (lt_of_cell b8c0_20) Nb8_d7).trans b8c0_20
  have b8c1_21 : w21.cell? ⟨g8, 1, none⟩ = some ((.slice d4avals ((matchR x0 x1 x2).1).vals.length d4cvals)) := (hw21.cellAt (lt_of_cell b8c1_20) Nb8_d7).trans b8c1_20
  have b13c0_21 : w21.cell? ⟨w11.heap.size, 0, none⟩ = some ((.slice d8avars ((matchR x0 x1 x2).1).vars.length d8cvars)) := (hw21.cellAt (lt_of_cell b13c0_20) Nb13_d7).trans b13c0_20
  have b13c1_21 : w21.cell? ⟨w11.heap.size, 1, none⟩ = some ((.slice d8avals ((matchR x0 x1 x2).1).vals.length d8cvals)) := (hw21.cellAt (lt_of_cell b13c1_20) Nb13_d7).trans b13c1_20
  have d4hvars_21 := ints.frame d4hvars_20 fun g hg => hw21.block g (d4hvars_20.lt g hg) (Xd4fvars_d7 g hg)
  have d4hvals_21 := ints.frame d4hvals_20 fun g hg => hw21.block g (d4hvals_20.lt g hg) (Xd4fvals_d7 g hg)
  have d8hvars_21 := ints.frame d8hvars_20 fun g hg => hw21.block g (d8hvars_20.lt g hg) ((fun hgx => Xd7fvals_d8 g hgx (by simp [hg])))
  have d8hvals_21 := ints.frame d8hvals_20 fun g hg => hw21.block g (d8hvals_20.lt g hg) ((fun hgx => Xd7fvals_d8 g hgx (by simp [hg])))
  clear b3c0_20 b3c1_20 b4c0_20 b4c1_20 b5c0_20 b5c1_20 b8c0_20 b8c1_20 b12c0_20 b12c1_20 b13c0_20 b13c1_20 d4hvars_20 d4hvals_20 d7hvals_20 d8hvars_20 d8hvals_20
  go_wp2_with fail
  refine (eqBinding_any ((matchR x0 x1 x2).1) ((matchR x0 x1 x2).1) _ _ _ _ _ _ _ _ _ (ints.below' d8hvars_21 ?_) (ints.below' d4hvars_21 ?_) (ints.below' d8hvals_21 ?_) (ints.below' d4hvals_21 ?_)).mono ?_
  · (repeat (first | exact Below.refl _ _ | refine ba ?_ | refine bdr ?_ | refine bs ?_ (by simp)))
  · (repeat (first | exact Below.refl _ _ | refine ba ?_ | refine bdr ?_ | refine bs ?_ (by simp)))
  · (repeat (first | exact Below.refl _ _ | refine ba ?_ | refine bdr ?_ | refine bs ?_ (by simp)))
  · (repeat (first | exact Below.refl _ _ | refine ba ?_ | refine bdr ?_ | refine bs ?_ (by simp)))
  rintro e w22 ⟨rfl, hb22⟩
  have D22 : Below w21.heap.size w21 w22 := bt (by (repeat (first | exact Below.refl _ _ | refine ba ?_ | refine bdr ?_ | refine bs ?_ (by simp)))) hb22
  have B22 : Below w.heap.size w w22 := bt B21 D22
  have b3c0_22 : w22.cell? ⟨w.heap.size, 0, none⟩ = some ((.slice p0vars x0.vars.length q0vars)) := cell_below b3c0_21 D22
  have b3c1_22 : w22.cell? ⟨w.heap.size, 1, none⟩ = some ((.slice p0vals x0.vals.length q0vals)) := cell_below b3c1_21 D22
  have b4c0_22 : w22.cell? ⟨w.heap.size + 1, 0, none⟩ = some (.int .i64 x1.rel) := cell_below b4c0_21 D22
  have b4c1_22 : w22.cell? ⟨w.heap.size + 1, 1, none⟩ = some ((.slice p1terms x1.terms.length q1terms)) := cell_below b4c1_21 D22
  have b5c0_22 : w22.cell? ⟨w.heap.size + 2, 0, none⟩ = some (.int .i64 x2.rel) := cell_below b5c0_21 D22
  have b5c1_22 : w22.cell? ⟨w.heap.size + 2, 1, none⟩ = some ((.slice p2vals x2.vals.length q2vals)) := cell_below b5c1_21 D22
  have b8c0_22 : w22.cell? ⟨g8, 0, none⟩ = some ((.slice d4avars ((matchR x0 x1 x2).1).vars.length d4cvars)) := cell_below b8c0_21 D22
  have b8c1_22 : w22.cell? ⟨g8, 1, none⟩ = some ((.slice d4avals ((matchR x0 x1 x2).1).vals.length d4cvals)) := cell_below b8c1_21 D22
  have b13c0_22 : w22.cell? ⟨w11.heap.size, 0, none⟩ = some ((.slice d8avars ((matchR x0 x1 x2).1).vars.length d8cvars)) := cell_below b13c0_21 D22
  have b13c1_22 : w22.cell? ⟨w11.heap.size, 1, none⟩ = some ((.slice d8avals ((matchR x0 x1 x2).1).vals.length d8cvals)) := cell_below b13c1_21 D22
  have d4hvars_22 := d4hvars_21.below' D22
  have d4hvals_22 := d4hvals_21.below' D22
  have d8hvars_22 := d8hvars_21.below' D22
  have d8hvals_22 := d8hvals_21.below' D22
  clear b3c0_21 b3c1_21 b4c0_21 b4c1_21 b5c0_21 b5c1_21 b8c0_21 b8c1_21 b13c0_21 b13c1_21 d4hvars_21 d4hvals_21 d8hvars_21 d8hvals_21
  go_wp2_with fail
  refine (markBinding_any ((matchR x0 x1 x2).1) _ _ d8fvars d8fvals (1) _ (ints.below' d8hvars_22 ?_) (ints.below' d8hvals_22 ?_) d8F.1 (by omega) (by omega)).mono ?_
  · (repeat (first | exact Below.refl _ _ | refine ba ?_ | refine bdr ?_ | refine bs ?_ (by simp)))
  · (repeat (first | exact Below.refl _ _ | refine ba ?_ | refine bdr ?_ | refine bs ?_ (by simp)))
  rintro e w23 ⟨rfl, d8hvarsm, d8hvalsm, hw23⟩
  have B23 : Below w.heap.size w w23 := bw B22 hw23 d8L
  have b3c0_23 : w23.cell? ⟨w.heap.size, 0, none⟩ = some ((.slice p0vars x0.vars.length q0vars)) := (hw23.cellAt (lt_of_cell b3c0_22) Nb3_d8).trans b3c0_22
  have b3c1_23 : w23.cell? ⟨w.heap.size, 1, none⟩ = some ((.slice p0vals x0.vals.length q0vals)) := (hw23.cellAt (lt_of_cell b3c1_22) Nb3_d8).trans b3c1_22
  have b4c0_23 : w23.cell? ⟨w.heap.size + 1, 0, none⟩ = some (.int .i64 x1.rel) := (hw23.cellAt (lt_of_cell b4c0_22) Nb4_d8).trans b4c0_22
  have b4c1_23 : w23.cell? ⟨w.heap.size + 1, 1, none⟩ = some ((.slice p1terms x1.terms.length q1terms)) := (hw23.cellAt (lt_of_cell b4c1_22) Nb4_d8).trans b4c1_22
  have b5c0_23 : w23.cell? ⟨w.heap.size + 2, 0, none⟩ = some (.int .i64 x2.rel) := (hw23.cellAt (lt_of_cell b5c0_22) Nb5_d8).trans b5c0_22
  have b5c1_23 : w23.cell? ⟨w.heap.size + 2, 1, none⟩ = some ((.slice p2vals x2.vals.length q2vals)) := (hw23.cellAt (lt_of_cell b5c1_22) Nb5_d8).trans b5c1_22
  have b8c0_23 : w23.cell? ⟨g8, 0, none⟩ = some ((.slice d4avars ((matchR x0 x1 x2).1).vars.length d4cvars)) := (hw23.cellAt (lt_of_cell b8c0_22) Nb8_d8).trans b8c0_22
  have b8c1_23 : w23.cell? ⟨g8, 1, none⟩ = some ((.slice d4avals ((matchR x0 x1 x2).1).vals.length d4cvals)) := (hw23.cellAt (lt_of_cell b8c1_22) Nb8_d8).trans b8c1_22
  have b13c0_23 : w23.cell? ⟨w11.heap.size, 0, none⟩ = some ((.slice d8avars ((matchR x0 x1 x2).1).vars.length d8cvars)) := (hw23.cellAt (lt_of_cell b13c0_22) Nb13_d8).trans b13c0_22
  have b13c1_23 : w23.cell? ⟨w11.heap.size, 1, none⟩ = some ((.slice d8avals ((matchR x0 x1 x2).1).vals.length d8cvals)) := (hw23.cellAt (lt_of_cell b13c1_22) Nb13_d8).trans b13c1_22
  have d4hvars_23 := ints.frame d4hvars_22 fun g hg => hw23.block g (d4hvars_22.lt g hg) (Xd4fvars_d8 g hg)
  have d4hvals_23 := ints.frame d4hvals_22 fun g hg => hw23.block g (d4hvals_22.lt g hg) (Xd4fvals_d8 g hg)
  have d8hvars_23 := d8hvarsm
  have d8hvals_23 := d8hvalsm
  clear b3c0_22 b3c1_22 b4c0_22 b4c1_22 b5c0_22 b5c1_22 b8c0_22 b8c1_22 b13c0_22 b13c1_22 d4hvars_22 d4hvals_22 d8hvars_22 d8hvals_22
  go_wp2_with fail
  refine (heldBinding_any ((matchR x0 x1 x2).1) _ _ _ _ (1) _ (ints.below' d8hvars_23 ?_) (ints.below' d8hvals_23 ?_) (by omega) (by omega)).mono ?_
  · (repeat (first | exact Below.refl _ _ | refine ba ?_ | refine bdr ?_ | refine bs ?_ (by simp)))
  · (repeat (first | exact Below.refl _ _ | refine ba ?_ | refine bdr ?_ | refine bs ?_ (by simp)))
  rintro e w24 ⟨rfl, hb24⟩
  have D24 : Below w23.heap.size w23 w24 := bt (by (repeat (first | exact Below.refl _ _ | refine ba ?_ | refine bdr ?_ | refine bs ?_ (by simp)))) hb24
  have B24 : Below w.heap.size w w24 := bt B23 D24
  have b3c0_24 : w24.cell? ⟨w.heap.size, 0, none⟩ = some ((.slice p0vars x0.vars.length q0vars)) := cell_below b3c0_23 D24
  have b3c1_24 : w24.cell? ⟨w.heap.size, 1, none⟩ = some ((.slice p0vals x0.vals.length q0vals)) := cell_below b3c1_23 D24
  have b4c0_24 : w24.cell? ⟨w.heap.size + 1, 0, none⟩ = some (.int .i64 x1.rel) := cell_below b4c0_23 D24
  have b4c1_24 : w24.cell? ⟨w.heap.size + 1, 1, none⟩ = some ((.slice p1terms x1.terms.length q1terms)) := cell_below b4c1_23 D24
  have b5c0_24 : w24.cell? ⟨w.heap.size + 2, 0, none⟩ = some (.int .i64 x2.rel) := cell_below b5c0_23 D24
  have b5c1_24 : w24.cell? ⟨w.heap.size + 2, 1, none⟩ = some ((.slice p2vals x2.vals.length q2vals)) := cell_below b5c1_23 D24
  have b8c0_24 : w24.cell? ⟨g8, 0, none⟩ = some ((.slice d4avars ((matchR x0 x1 x2).1).vars.length d4cvars)) := cell_below b8c0_23 D24
  have b8c1_24 : w24.cell? ⟨g8, 1, none⟩ = some ((.slice d4avals ((matchR x0 x1 x2).1).vals.length d4cvals)) := cell_below b8c1_23 D24
  have b13c0_24 : w24.cell? ⟨w11.heap.size, 0, none⟩ = some ((.slice d8avars ((matchR x0 x1 x2).1).vars.length d8cvars)) := cell_below b13c0_23 D24
  have b13c1_24 : w24.cell? ⟨w11.heap.size, 1, none⟩ = some ((.slice d8avals ((matchR x0 x1 x2).1).vals.length d8cvals)) := cell_below b13c1_23 D24
  have d4hvars_24 := d4hvars_23.below' D24
  have d4hvals_24 := d4hvals_23.below' D24
  have d8hvars_24 := d8hvars_23.below' D24
  have d8hvals_24 := d8hvals_23.below' D24
  clear b3c0_23 b3c1_23 b4c0_23 b4c1_23 b5c0_23 b5c1_23 b8c0_23 b8c1_23 b13c0_23 b13c1_23 d4hvars_23 d4hvals_23 d8hvars_23 d8hvals_23
  go_wp2_with fail
  go_cut [18, 19] from 115 (fun s18 s19 wr => ∃ (g18 : Nat) (d15vvars d15vvals : Value) (d15fvars d15fvals : List Nat), s18 = .pointer (some ⟨g18, 0, none⟩) ∧ s19 = .bool ((matchR x0 x1 x2).2) ∧ w24.heap.size ≤ g18 ∧ MrBox w24 wr g18 d15vvars d15vvals ((matchR x0 x1 x2).1).vars ((matchR x0 x1 x2).1).vals d15fvars d15fvals)
  case first =>
    go_region_held3 (fun w' => w'.cell? ⟨w.heap.size, 0, none⟩ = some ((.slice p0vars x0.vars.length q0vars)) ∧ w'.cell? ⟨w.heap.size, 1, none⟩ = some ((.slice p0vals x0.vals.length q0vals)) ∧ w'.cell? ⟨w.heap.size + 1, 0, none⟩ = some (.int .i64 x1.rel) ∧ w'.cell? ⟨w.heap.size + 1, 1, none⟩ = some ((.slice p1terms x1.terms.length q1terms)) ∧ w'.cell? ⟨w.heap.size + 2, 0, none⟩ = some (.int .i64 x2.rel) ∧ w'.cell? ⟨w.heap.size + 2, 1, none⟩ = some ((.slice p2vals x2.vals.length q2vals))) (first | exact ⟨b3c0_24, b3c1_24, b4c0_24, b4c1_24, b5c0_24, b5c1_24⟩ | exact ⟨cell_al b3c0_24 _, cell_al b3c1_24 _, cell_al b4c0_24 _, cell_al b4c1_24 _, cell_al b5c0_24 _, cell_al b5c1_24 _⟩ | exact ⟨b3c0_25, b3c1_25, b4c0_25, b4c1_25, b5c0_25, b5c1_25⟩ | exact ⟨cell_al b3c0_25 _, cell_al b3c1_25 _, cell_al b4c0_25 _, cell_al b4c1_25 _, cell_al b5c0_25 _, cell_al b5c1_25 _⟩ | exact ⟨b3c0_26, b3c1_26, b4c0_26, b4c1_26, b5c0_26, b5c1_26⟩ | exact ⟨cell_al b3c0_26 _, cell_al b3c1_26 _, cell_al b4c0_26 _, cell_al b4c1_26 _, cell_al b5c0_26 _, cell_al b5c1_26 _⟩ | exact ⟨b3c0_27, b3c1_27, b4c0_27, b4c1_27, b5c0_27, b5c1_27⟩ | exact ⟨cell_al b3c0_27 _, cell_al b3c1_27 _, cell_al b4c0_27 _, cell_al b4c1_27 _, cell_al b5c0_27 _, cell_al b5c1_27 _⟩ | exact ⟨b3c0_28, b3c1_28, b4c0_28, b4c1_28, b5c0_28, b5c1_28⟩ | exact ⟨cell_al b3c0_28 _, cell_al b3c1_28 _, cell_al b4c0_28 _, cell_al b4c1_28 _, cell_al b5c0_28 _, cell_al b5c1_28 _⟩ | exact ⟨cell_below b3c0_24 (by repeat (first | exact DK | exact Below.refl _ _ | refine bs ?_ (by first | omega | exact Nat.le_refl _ | (dsimp only; omega) | (simp; done) | (simp; omega)) | refine ba ?_)), cell_below b3c1_24 (by repeat (first | exact DK | exact Below.refl _ _ | refine bs ?_ (by first | omega | exact Nat.le_refl _ | (dsimp only; omega) | (simp; done) | (simp; omega)) | refine ba ?_)), cell_below b4c0_24 (by repeat (first | exact DK | exact Below.refl _ _ | refine bs ?_ (by first | omega | exact Nat.le_refl _ | (dsimp only; omega) | (simp; done) | (simp; omega)) | refine ba ?_)), cell_below b4c1_24 (by repeat (first | exact DK | exact Below.refl _ _ | refine bs ?_ (by first | omega | exact Nat.le_refl _ | (dsimp only; omega) | (simp; done) | (simp; omega)) | refine ba ?_)), cell_below b5c0_24 (by repeat (first | exact DK | exact Below.refl _ _ | refine bs ?_ (by first | omega | exact Nat.le_refl _ | (dsimp only; omega) | (simp; done) | (simp; omega)) | refine ba ?_)), cell_below b5c1_24 (by repeat (first | exact DK | exact Below.refl _ _ | refine bs ?_ (by first | omega | exact Nat.le_refl _ | (dsimp only; omega) | (simp; done) | (simp; omega)) | refine ba ?_))⟩)
      (first
        | (go_at_call 8
           refine (toBinding_any x0 _ _ _ (intsV.below' h0vars ?_) nx0vars (intsV.below' h0vals ?_) nx0vals).mono ?_
           · (repeat (first | exact B24 | refine ba ?_ | refine bdr ?_ | refine bs ?_ (by simp)))
           · (repeat (first | exact B24 | refine ba ?_ | refine bdr ?_ | refine bs ?_ (by simp)))
           rintro e w25 ⟨d12vvars, d12vvals, d12fvars, d12fvals, rfl, d12hvars_25, d12hvals_25, d12fr, hb25⟩
           obtain ⟨d12avars, d12cvars, rfl⟩ := slR.form d12hvars_25
           obtain ⟨d12avals, d12cvals, rfl⟩ := slR.form d12hvals_25
           have D25 : Below w24.heap.size w24 w25 := bt (by (repeat (first | exact Below.refl _ _ | refine ba ?_ | refine bdr ?_ | refine bs ?_ (by simp)))) hb25
           have B25 : Below w.heap.size w w25 := bt B24 D25
           have b3c0_25 : w25.cell? ⟨w.heap.size, 0, none⟩ = some ((.slice p0vars x0.vars.length q0vars)) := cell_below b3c0_24 D25
           have b3c1_25 : w25.cell? ⟨w.heap.size, 1, none⟩ = some ((.slice p0vals x0.vals.length q0vals)) := cell_below b3c1_24 D25
           have b4c0_25 : w25.cell? ⟨w.heap.size + 1, 0, none⟩ = some (.int .i64 x1.rel) := cell_below b4c0_24 D25
           have b4c1_25 : w25.cell? ⟨w.heap.size + 1, 1, none⟩ = some ((.slice p1terms x1.terms.length q1terms)) := cell_below b4c1_24 D25
           have b5c0_25 : w25.cell? ⟨w.heap.size + 2, 0, none⟩ = some (.int .i64 x2.rel) := cell_below b5c0_24 D25
           have b5c1_25 : w25.cell? ⟨w.heap.size + 2, 1, none⟩ = some ((.slice p2vals x2.vals.length q2vals)) := cell_below b5c1_24 D25
           have b8c0_25 : w25.cell? ⟨g8, 0, none⟩ = some ((.slice d4avars ((matchR x0 x1 x2).1).vars.length d4cvars)) := cell_below b8c0_24 D25
           have b8c1_25 : w25.cell? ⟨g8, 1, none⟩ = some ((.slice d4avals ((matchR x0 x1 x2).1).vals.length d4cvals)) := cell_below b8c1_24 D25
           have b13c0_25 : w25.cell? ⟨w11.heap.size, 0, none⟩ = some ((.slice d8avars ((matchR x0 x1 x2).1).vars.length d8cvars)) := cell_below b13c0_24 D25
           have b13c1_25 : w25.cell? ⟨w11.heap.size, 1, none⟩ = some ((.slice d8avals ((matchR x0 x1 x2).1).vals.length d8cvals)) := cell_below b13c1_24 D25
           have d4hvars_25 := d4hvars_24.below' D25
           have d4hvals_25 := d4hvals_24.below' D25
           have d8hvars_25 := d8hvars_24.below' D25
           have d8hvals_25 := d8hvals_24.below' D25
           have zz25 := D25.size
           first | (have bx25 := (Two.new _ _ _ _).below hb25) | (have bx25 := ((Two.new _ _ _ _).below (bdr (Below.refl _ _))).below hb25) | (have bx25 := bx24.below hb25) | (have bx25 := (bx24.below (bdr (Below.refl _ _))).below hb25) | skip
           first | (obtain ⟨⟨by25, bz25⟩, bu25, bv25⟩ := (id bx25)) | skip)
        | (go_at_call 9
           refine (toAtom_any x1 _ _ (intsV.below' h1terms ?_) nx1terms).mono ?_
           · (repeat (first | exact B25 | refine ba ?_ | refine bdr ?_ | refine bs ?_ (by simp)))
           rintro e w26 ⟨d13vterms, d13fterms, rfl, d13hterms_26, d13fr, hb26⟩
           obtain ⟨d13aterms, d13cterms, rfl⟩ := slR.form d13hterms_26
           have D26 : Below w25.heap.size w25 w26 := bt (by (repeat (first | exact Below.refl _ _ | refine ba ?_ | refine bdr ?_ | refine bs ?_ (by simp)))) hb26
           have B26 : Below w.heap.size w w26 := bt B25 D26
           have b3c0_26 : w26.cell? ⟨w.heap.size, 0, none⟩ = some ((.slice p0vars x0.vars.length q0vars)) := cell_below b3c0_25 D26
           have b3c1_26 : w26.cell? ⟨w.heap.size, 1, none⟩ = some ((.slice p0vals x0.vals.length q0vals)) := cell_below b3c1_25 D26
           have b4c0_26 : w26.cell? ⟨w.heap.size + 1, 0, none⟩ = some (.int .i64 x1.rel) := cell_below b4c0_25 D26
           have b4c1_26 : w26.cell? ⟨w.heap.size + 1, 1, none⟩ = some ((.slice p1terms x1.terms.length q1terms)) := cell_below b4c1_25 D26
           have b5c0_26 : w26.cell? ⟨w.heap.size + 2, 0, none⟩ = some (.int .i64 x2.rel) := cell_below b5c0_25 D26
           have b5c1_26 : w26.cell? ⟨w.heap.size + 2, 1, none⟩ = some ((.slice p2vals x2.vals.length q2vals)) := cell_below b5c1_25 D26
           have b8c0_26 : w26.cell? ⟨g8, 0, none⟩ = some ((.slice d4avars ((matchR x0 x1 x2).1).vars.length d4cvars)) := cell_below b8c0_25 D26
           have b8c1_26 : w26.cell? ⟨g8, 1, none⟩ = some ((.slice d4avals ((matchR x0 x1 x2).1).vals.length d4cvals)) := cell_below b8c1_25 D26
           have b13c0_26 : w26.cell? ⟨w11.heap.size, 0, none⟩ = some ((.slice d8avars ((matchR x0 x1 x2).1).vars.length d8cvars)) := cell_below b13c0_25 D26
           have b13c1_26 : w26.cell? ⟨w11.heap.size, 1, none⟩ = some ((.slice d8avals ((matchR x0 x1 x2).1).vals.length d8cvals)) := cell_below b13c1_25 D26
           have d4hvars_26 := d4hvars_25.below' D26
           have d4hvals_26 := d4hvals_25.below' D26
           have d8hvars_26 := d8hvars_25.below' D26
           have d8hvals_26 := d8hvals_25.below' D26
           have d12hvars_26 := d12hvars_25.below' D26
           have d12hvals_26 := d12hvals_25.below' D26
           have zz26 := D26.size
           first | (have bx26 := (Two.new _ _ _ _).below hb26) | (have bx26 := ((Two.new _ _ _ _).below (bdr (Below.refl _ _))).below hb26) | (have bx26 := bx25.below hb26) | (have bx26 := (bx25.below (bdr (Below.refl _ _))).below hb26) | skip
           first | (obtain ⟨⟨by26, bz26⟩, bu26, bv26⟩ := (id bx26)) | skip)
        | (go_at_call 10
           refine (toFact_any x2 _ _ (intsV.below' h2vals ?_) nx2vals).mono ?_
           · (repeat (first | exact B26 | refine ba ?_ | refine bdr ?_ | refine bs ?_ (by simp)))
           rintro e w27 ⟨d14vvals, d14fvals, rfl, d14hvals_27, d14fr, hb27⟩
           obtain ⟨d14avals, d14cvals, rfl⟩ := slR.form d14hvals_27
           have D27 : Below w26.heap.size w26 w27 := bt (by (repeat (first | exact Below.refl _ _ | refine ba ?_ | refine bdr ?_ | refine bs ?_ (by simp)))) hb27
           have B27 : Below w.heap.size w w27 := bt B26 D27
           have b3c0_27 : w27.cell? ⟨w.heap.size, 0, none⟩ = some ((.slice p0vars x0.vars.length q0vars)) := cell_below b3c0_26 D27
           have b3c1_27 : w27.cell? ⟨w.heap.size, 1, none⟩ = some ((.slice p0vals x0.vals.length q0vals)) := cell_below b3c1_26 D27
           have b4c0_27 : w27.cell? ⟨w.heap.size + 1, 0, none⟩ = some (.int .i64 x1.rel) := cell_below b4c0_26 D27
           have b4c1_27 : w27.cell? ⟨w.heap.size + 1, 1, none⟩ = some ((.slice p1terms x1.terms.length q1terms)) := cell_below b4c1_26 D27
           have b5c0_27 : w27.cell? ⟨w.heap.size + 2, 0, none⟩ = some (.int .i64 x2.rel) := cell_below b5c0_26 D27
           have b5c1_27 : w27.cell? ⟨w.heap.size + 2, 1, none⟩ = some ((.slice p2vals x2.vals.length q2vals)) := cell_below b5c1_26 D27
           have b8c0_27 : w27.cell? ⟨g8, 0, none⟩ = some ((.slice d4avars ((matchR x0 x1 x2).1).vars.length d4cvars)) := cell_below b8c0_26 D27
           have b8c1_27 : w27.cell? ⟨g8, 1, none⟩ = some ((.slice d4avals ((matchR x0 x1 x2).1).vals.length d4cvals)) := cell_below b8c1_26 D27
           have b13c0_27 : w27.cell? ⟨w11.heap.size, 0, none⟩ = some ((.slice d8avars ((matchR x0 x1 x2).1).vars.length d8cvars)) := cell_below b13c0_26 D27
           have b13c1_27 : w27.cell? ⟨w11.heap.size, 1, none⟩ = some ((.slice d8avals ((matchR x0 x1 x2).1).vals.length d8cvals)) := cell_below b13c1_26 D27
           have d4hvars_27 := d4hvars_26.below' D27
           have d4hvals_27 := d4hvals_26.below' D27
           have d8hvars_27 := d8hvars_26.below' D27
           have d8hvals_27 := d8hvals_26.below' D27
           have d12hvars_27 := d12hvars_26.below' D27
           have d12hvals_27 := d12hvals_26.below' D27
           have d13hterms_27 := d13hterms_26.below' D27
           have zz27 := D27.size
           first | (have bx27 := (Two.new _ _ _ _).below hb27) | (have bx27 := ((Two.new _ _ _ _).below (bdr (Below.refl _ _))).below hb27) | (have bx27 := bx26.below hb27) | (have bx27 := (bx26.below (bdr (Below.refl _ _))).below hb27) | skip
           first | (obtain ⟨⟨by27, bz27⟩, bu27, bv27⟩ := (id bx27)) | skip)
        | (go_at_call 11
           refine (implMatchR_any x0 x1 x2 _ _ _ _ _ _ _ _ _ (ints.below' d12hvars_27 ?_) (ints.below' d12hvals_27 ?_) (ints.below' d13hterms_27 ?_) (ints.below' d14hvals_27 ?_) nS nx0vals).mono ?_
           · (repeat (first | exact Below.refl _ _ | refine ba ?_ | refine bdr ?_ | refine bs ?_ (by simp)))
           · (repeat (first | exact Below.refl _ _ | refine ba ?_ | refine bdr ?_ | refine bs ?_ (by simp)))
           · (repeat (first | exact Below.refl _ _ | refine ba ?_ | refine bdr ?_ | refine bs ?_ (by simp)))
           · (repeat (first | exact Below.refl _ _ | refine ba ?_ | refine bdr ?_ | refine bs ?_ (by simp)))
           rintro e w28 ⟨d15vvars, d15vvals, d15fvars, d15fvals, rfl, d15hvars_28, d15hvals_28, d15fr, hb28⟩
           obtain ⟨d15avars, d15cvars, rfl⟩ := slR.form d15hvars_28
           obtain ⟨d15avals, d15cvals, rfl⟩ := slR.form d15hvals_28
           have D28 : Below w27.heap.size w27 w28 := bt (by (repeat (first | exact Below.refl _ _ | refine ba ?_ | refine bdr ?_ | refine bs ?_ (by simp)))) hb28
           have B28 : Below w.heap.size w w28 := bt B27 D28
           have b3c0_28 : w28.cell? ⟨w.heap.size, 0, none⟩ = some ((.slice p0vars x0.vars.length q0vars)) := cell_below b3c0_27 D28
           have b3c1_28 : w28.cell? ⟨w.heap.size, 1, none⟩ = some ((.slice p0vals x0.vals.length q0vals)) := cell_below b3c1_27 D28
           have b4c0_28 : w28.cell? ⟨w.heap.size + 1, 0, none⟩ = some (.int .i64 x1.rel) := cell_below b4c0_27 D28
           have b4c1_28 : w28.cell? ⟨w.heap.size + 1, 1, none⟩ = some ((.slice p1terms x1.terms.length q1terms)) := cell_below b4c1_27 D28
           have b5c0_28 : w28.cell? ⟨w.heap.size + 2, 0, none⟩ = some (.int .i64 x2.rel) := cell_below b5c0_27 D28
           have b5c1_28 : w28.cell? ⟨w.heap.size + 2, 1, none⟩ = some ((.slice p2vals x2.vals.length q2vals)) := cell_below b5c1_27 D28
           have b8c0_28 : w28.cell? ⟨g8, 0, none⟩ = some ((.slice d4avars ((matchR x0 x1 x2).1).vars.length d4cvars)) := cell_below b8c0_27 D28
           have b8c1_28 : w28.cell? ⟨g8, 1, none⟩ = some ((.slice d4avals ((matchR x0 x1 x2).1).vals.length d4cvals)) := cell_below b8c1_27 D28
           have b13c0_28 : w28.cell? ⟨w11.heap.size, 0, none⟩ = some ((.slice d8avars ((matchR x0 x1 x2).1).vars.length d8cvars)) := cell_below b13c0_27 D28
           have b13c1_28 : w28.cell? ⟨w11.heap.size, 1, none⟩ = some ((.slice d8avals ((matchR x0 x1 x2).1).vals.length d8cvals)) := cell_below b13c1_27 D28
           have d4hvars_28 := d4hvars_27.below' D28
           have d4hvals_28 := d4hvals_27.below' D28
           have d8hvars_28 := d8hvars_27.below' D28
           have d8hvals_28 := d8hvals_27.below' D28
           have DK := (bt (bt (bt D25 D26) D27) D28)
           have zz28 := D28.size
           first | (have bx28 := (Two.new _ _ _ _).below hb28) | (have bx28 := ((Two.new _ _ _ _).below (bdr (Below.refl _ _))).below hb28) | (have bx28 := bx27.below hb28) | (have bx28 := (bx27.below (bdr (Below.refl _ _))).below hb28) | skip
           first | (obtain ⟨⟨by28, bz28⟩, bu28, bv28⟩ := (id bx28)) | skip))
    all_goals (try go_wp2_with fail)
    all_goals go_meet
    all_goals refine ⟨_, (.slice d15avars ((matchR x0 x1 x2).1).vars.length d15cvars), (.slice d15avals ((matchR x0 x1 x2).1).vals.length d15cvals), d15fvars, d15fvals, rfl, rfl, ?_, ?_⟩
    all_goals (first | (with_reducible exact Nat.le_refl _) | omega | (with_reducible exact mr_late2 d15hvars_28 d15hvals_28 DK) | (with_reducible exact mr_late d15hvars_28 d15hvals_28 DK) | (with_reducible refine mr_early (n1 := .slice none 0 0) (n2 := .slice none 0 0) ?_ ?_ hb28 d15hvars_28 d15hvals_28 d15fr DK))
    all_goals (first | (with_reducible exact Nat.le_refl _) | omega | (with_reducible first | exact Two.new _ _ _ _ | exact bx27 | exact bx27.below (bdr (Below.refl _ _)) | exact bx26 | exact bx26.below (bdr (Below.refl _ _)) | exact bx25 | exact bx25.below (bdr (Below.refl _ _))) | exact (Two.new _ _ _ _).below (bdr (Below.refl _ _)))
  case rest =>
  obtain ⟨g18, d15vvars, d15vvals, d15fvars, d15fvals, rfl, rfl, hge28, ⟨b18c0_28, b18c1_28⟩, d15hvars_28, d15hvals_28, D28⟩ := hcut
  obtain ⟨w28, ew28⟩ : ∃ x, x = wc := ⟨_, rfl⟩
  subst ew28
  obtain ⟨d15avars, d15cvars, rfl⟩ := slR.form d15hvars_28
  obtain ⟨d15avals, d15cvals, rfl⟩ := slR.form d15hvals_28
  have B28 : Below w.heap.size w w28 := bt B24 D28
  have b3c0_28 : w28.cell? ⟨w.heap.size, 0, none⟩ = some ((.slice p0vars x0.vars.length q0vars)) := cell_below b3c0_24 D28
  have b3c1_28 : w28.cell? ⟨w.heap.size, 1, none⟩ = some ((.slice p0vals x0.vals.length q0vals)) := cell_below b3c1_24 D28
  have b4c0_28 : w28.cell? ⟨w.heap.size + 1, 0, none⟩ = some (.int .i64 x1.rel) := cell_below b4c0_24 D28
  have b4c1_28 : w28.cell? ⟨w.heap.size + 1, 1, none⟩ = some ((.slice p1terms x1.terms.length q1terms)) := cell_below b4c1_24 D28
  have b5c0_28 : w28.cell? ⟨w.heap.size + 2, 0, none⟩ = some (.int .i64 x2.rel) := cell_below b5c0_24 D28
  have b5c1_28 : w28.cell? ⟨w.heap.size + 2, 1, none⟩ = some ((.slice p2vals x2.vals.length q2vals)) := cell_below b5c1_24 D28
  have b8c0_28 : w28.cell? ⟨g8, 0, none⟩ = some ((.slice d4avars ((matchR x0 x1 x2).1).vars.length d4cvars)) := cell_below b8c0_24 D28
  have b8c1_28 : w28.cell? ⟨g8, 1, none⟩ = some ((.slice d4avals ((matchR x0 x1 x2).1).vals.length d4cvals)) := cell_below b8c1_24 D28
  have b13c0_28 : w28.cell? ⟨w11.heap.size, 0, none⟩ = some ((.slice d8avars ((matchR x0 x1 x2).1).vars.length d8cvars)) := cell_below b13c0_24 D28
  have b13c1_28 : w28.cell? ⟨w11.heap.size, 1, none⟩ = some ((.slice d8avals ((matchR x0 x1 x2).1).vals.length d8cvals)) := cell_below b13c1_24 D28
  have d4hvars_28 := d4hvars_24.below' D28
  have d4hvals_28 := d4hvals_24.below' D28
  have d8hvars_28 := d8hvars_24.below' D28
  have d8hvals_28 := d8hvals_24.below' D28
  clear b3c0_24 b3c1_24 b4c0_24 b4c1_24 b5c0_24 b5c1_24 b8c0_24 b8c1_24 b13c0_24 b13c1_24 d4hvars_24 d4hvals_24 d8hvars_24 d8hvals_24
  go_wp2_with fail
  refine (eqBinding_any ((matchR x0 x1 x2).1) ((matchR x0 x1 x2).1) _ _ _ _ _ _ _ _ _ (ints.below' d15hvars_28 ?_) (ints.below' d4hvars_28 ?_) (ints.below' d15hvals_28 ?_) (ints.below' d4hvals_28 ?_)).mono ?_
  · (repeat (first | exact Below.refl _ _ | refine ba ?_ | refine bdr ?_ | refine bs ?_ (by simp)))
  · (repeat (first | exact Below.refl _ _ | refine ba ?_ | refine bdr ?_ | refine bs ?_ (by simp)))
  · (repeat (first | exact Below.refl _ _ | refine ba ?_ | refine bdr ?_ | refine bs ?_ (by simp)))
  · (repeat (first | exact Below.refl _ _ | refine ba ?_ | refine bdr ?_ | refine bs ?_ (by simp)))
  rintro e w29 ⟨rfl, hb29⟩
  have D29 : Below w28.heap.size w28 w29 := bt (by (repeat (first | exact Below.refl _ _ | refine ba ?_ | refine bdr ?_ | refine bs ?_ (by simp)))) hb29
  have B29 : Below w.heap.size w w29 := bt B28 D29
  have b4c0_29 : w29.cell? ⟨w.heap.size + 1, 0, none⟩ = some (.int .i64 x1.rel) := cell_below b4c0_28 D29
  have b4c1_29 : w29.cell? ⟨w.heap.size + 1, 1, none⟩ = some ((.slice p1terms x1.terms.length q1terms)) := cell_below b4c1_28 D29
  have b5c0_29 : w29.cell? ⟨w.heap.size + 2, 0, none⟩ = some (.int .i64 x2.rel) := cell_below b5c0_28 D29
  have b5c1_29 : w29.cell? ⟨w.heap.size + 2, 1, none⟩ = some ((.slice p2vals x2.vals.length q2vals)) := cell_below b5c1_28 D29
  have b13c0_29 : w29.cell? ⟨w11.heap.size, 0, none⟩ = some ((.slice d8avars ((matchR x0 x1 x2).1).vars.length d8cvars)) := cell_below b13c0_28 D29
  have b13c1_29 : w29.cell? ⟨w11.heap.size, 1, none⟩ = some ((.slice d8avals ((matchR x0 x1 x2).1).vals.length d8cvals)) := cell_below b13c1_28 D29
  have d8hvars_29 := d8hvars_28.below' D29
  have d8hvals_29 := d8hvals_28.below' D29
  clear b3c0_28 b3c1_28 b4c0_28 b4c1_28 b5c0_28 b5c1_28 b8c0_28 b8c1_28 b13c0_28 b13c1_28 b18c0_28 b18c1_28 d4hvars_28 d4hvals_28 d8hvars_28 d8hvals_28 d15hvars_28 d15hvals_28
  go_wp2_with fail
  refine (heldBinding_any ((matchR x0 x1 x2).1) _ _ _ _ (1) _ (ints.below' d8hvars_29 ?_) (ints.below' d8hvals_29 ?_) (by omega) (by omega)).mono ?_
  · (repeat (first | exact Below.refl _ _ | refine ba ?_ | refine bdr ?_ | refine bs ?_ (by simp)))
  · (repeat (first | exact Below.refl _ _ | refine ba ?_ | refine bdr ?_ | refine bs ?_ (by simp)))
  rintro e w30 ⟨rfl, hb30⟩
  have D30 : Below w29.heap.size w29 w30 := bt (by (repeat (first | exact Below.refl _ _ | refine ba ?_ | refine bdr ?_ | refine bs ?_ (by simp)))) hb30
  have B30 : Below w.heap.size w w30 := bt B29 D30
  have b5c0_30 : w30.cell? ⟨w.heap.size + 2, 0, none⟩ = some (.int .i64 x2.rel) := cell_below b5c0_29 D30
  have b5c1_30 : w30.cell? ⟨w.heap.size + 2, 1, none⟩ = some ((.slice p2vals x2.vals.length q2vals)) := cell_below b5c1_29 D30
  clear b4c0_29 b4c1_29 b5c0_29 b5c1_29 b13c0_29 b13c1_29 d8hvars_29 d8hvals_29
  go_wp2
  go_ret
  exact ⟨rfl, B30⟩
end Go.Proofs.Ytapapnaljjnhnaa
