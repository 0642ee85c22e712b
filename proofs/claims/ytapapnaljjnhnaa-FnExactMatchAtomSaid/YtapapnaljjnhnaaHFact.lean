/- The laws' helpers at Fact and at slices of it: size, copy, comparison, marks, marks held. Conditions: the sizes that the laws themselves ask. -/
import Derived.Test.YtapapnaljjnhnaaHBase
import Derived.StillTailTactics
namespace Go.Proofs.Ytapapnaljjnhnaa
open Go.RowKit
set_option linter.unusedVariables false
set_option linter.unusedSimpArgs false
instance : DecidableEq FactD := fun a b => decidable_of_iff (a.rel = b.rel ∧ a.vals = b.vals) (by cases a; cases b; simp)
instance : Inhabited FactD := ⟨⟨0, []⟩⟩
def bulkFact (x : FactD) : Nat := x.vals.length
set_option maxHeartbeats 400000 in
theorem toFact_any (x : FactD) (vvals : Value) (w : World) (hvals : intsV w vvals x.vals) (nvals : x.vals.length ≤ 1048576) :
    Calls Try.prog 10 #[.agg #[.int .i64 x.rel, vvals]] w fun e w' => ∃ uvals gvals, e = .returned (.agg #[.int .i64 x.rel, uvals]) ∧ ints w' uvals x.vals gvals ∧ Fresh w.heap.size (gvals) ∧ Below w.heap.size w w' := by
  obtain ⟨avals, cvals, rfl⟩ := slW.form hvals
  have hb0 : ∀ o1 o2 o3 : Obj, Below w.heap.size w (((w.alloc o1).alloc o2).alloc o3) := fun o1 o2 o3 => (((Below.refl _ _).alloc (Nat.le_refl _) _).alloc (by simp) _).alloc (by simp; omega) _
  go_enter Try.func10, Try.ntmps10
  go_wp2_with fail
  refine (toIntS_any _ x.vals _ (hvals.below' ?_) nvals).mono ?_
  · repeat (refine Below.setCell ?_ (by simp <;> omega) _)
    exact hb0 _ _ _
  rintro e w1 ⟨uvals, gvals, rfl, huvals, hfvals, hb1⟩
  obtain ⟨avals', cvals', rfl⟩ := slR.form huvals
  have hz1 : w.heap.size + 2 < w1.heap.size := by have := hb1.size; simp at this; omega
  have hz1a : w.heap.size + 1 < w1.heap.size := by omega
  have hz1b : w.heap.size < w1.heap.size := by omega
  obtain ⟨hc1, hzz1⟩ := bcell hb1
  go_wp2
  refine bodyPost_ret (v := .agg #[.int .i64 x.rel, .slice avals' x.vals.length cvals']) (by simp [results, Try.results10, go_sem, hc1, hzz1, hz1, hz1a, hz1b]) rfl ⟨_, gvals, rfl, ?_, ?_, ?_⟩
  · repeat (refine ints.far ?_ (hfvals.notin (by simp <;> omega)) _)
    exact huvals
  · exact hfvals.mono (by simp; omega)
  · repeat (refine Below.setCell ?_ (by simp <;> omega) _)
    exact (hb0 _ _ _).trans (hb1.mono (by simp; omega))
set_option maxHeartbeats 800000 in
theorem eqFact_any (x y : FactD) (vvals yvals : Value) (fvals gvals : List Nat) (w : World) (hvals : ints w vvals x.vals fvals) (kvals : ints w yvals y.vals gvals) :
    Calls Try.prog 14 #[.agg #[.int .i64 x.rel, vvals], .agg #[.int .i64 y.rel, yvals]] w fun e w' => e = .returned (.bool (decide (x = y))) ∧ Below w.heap.size w w' := by
  obtain ⟨avals, cvals, rfl⟩ := slR.form hvals
  obtain ⟨bvals, dvals, rfl⟩ := slR.form kvals
  have hb0 : ∀ o1 o2 : Obj, Below w.heap.size w ((w.alloc o1).alloc o2) := fun o1 o2 => ((Below.refl _ _).alloc (Nat.le_refl _) _).alloc (by simp) _
  by_cases erel : x.rel = y.rel
  case neg =>
    have trel : (x.rel != y.rel) = true := by simp [erel]
    have Hfin := Lib.hid (show decide (x = y) = false from decide_eq_false (fun h => erel (by rw [h])))
    clear erel
    go_enter Try.func14, Try.ntmps14
    go_wp2
    go_ret
    exact ⟨ret_bool (by rw [Hfin.out]), hb0 _ _⟩
  by_cases evals : x.vals = y.vals
  case neg =>
    have trel : (x.rel != y.rel) = false := by simp [erel]
    have tvals : decide (x.vals = y.vals) = false := by simp [evals]
    have Hfin := Lib.hid (show decide (x = y) = false from decide_eq_false (fun h => evals (by rw [h])))
    clear erel
    clear evals
    go_enter Try.func14, Try.ntmps14
    go_wp2_with fail
    refine (eqIntS_any _ _ _ _ _ _ _ (hvals.below' (hb0 _ _)) (kvals.below' (hb0 _ _))).mono ?_
    rintro e w1 ⟨rfl, hb1⟩
    have hB1 := Below.trans (hb0 _ _) (hb1.mono (hb0 _ _).size)
    have hz1 : w.heap.size + 1 < w1.heap.size := by have := hb1.size; simp at this; omega
    obtain ⟨hc1, hzz1⟩ := bcell hb1
    go_wp2
    go_ret
    exact ⟨ret_bool (by rw [Hfin.out]), hB1⟩
  have trel : (x.rel != y.rel) = false := by simp [erel]
  have tvals : decide (x.vals = y.vals) = true := by simp [evals]
  have Hfin := Lib.hid (show decide (x = y) = true from decide_eq_true (by cases x; cases y; simp_all))
  clear erel
  clear evals
  go_enter Try.func14, Try.ntmps14
  go_wp2_with fail
  refine (eqIntS_any _ _ _ _ _ _ _ (hvals.below' (hb0 _ _)) (kvals.below' (hb0 _ _))).mono ?_
  rintro e w1 ⟨rfl, hb1⟩
  have hB1 := Below.trans (hb0 _ _) (hb1.mono (hb0 _ _).size)
  have hz1 : w.heap.size + 1 < w1.heap.size := by have := hb1.size; simp at this; omega
  obtain ⟨hc1, hzz1⟩ := bcell hb1
  go_wp2
  go_ret
  exact ⟨ret_bool (by rw [Hfin.out]), hB1⟩
set_option maxHeartbeats 400000 in
theorem szFact_any (x : FactD) (vvals : Value) (b : Int) (w : World) (hvals : intsV w vvals x.vals) (hb : 0 ≤ b ∧ b ≤ 1048576) :
    Calls Try.prog 6 #[.agg #[.int .i64 x.rel, vvals], .int .i64 b] w fun e w' => e = .returned (.int .i64 (left (bulkFact x) b)) ∧ Below w.heap.size w w' := by
  obtain ⟨avals, cvals, rfl⟩ := slW.form hvals
  have hb0 : ∀ o1 : Obj, Below w.heap.size w (w.alloc o1) := fun o1 => (Below.refl _ _).alloc (Nat.le_refl _) _
  have hl := left_cases x.vals.length b hb.1
  rcases hl with ⟨h0, h1⟩ | ⟨h0, h1⟩
  all_goals
    have H1 := Lib.hid h1
    have hlt := left_sign x.vals.length b
    go_enter Try.func6, Try.ntmps6
    go_wp2_with fail
    refine (szIntS_any _ x.vals b _ (hvals.below' (hb0 _)) hb).mono ?_
    rintro e w1 ⟨rfl, rfl⟩
    go_wp2
    go_ret
    exact ⟨ret_int (by first | rfl | (have := H1.out; unfold bulkFact; omega)), (hb0 _)⟩
set_option maxRecDepth 100000 in
set_option maxHeartbeats 400000 in
theorem markFact_any (x : FactD) (vvals : Value) (fvals : List Nat) (k0 : Int) (w : World) (hvals : ints w vvals x.vals fvals) (hnd : (fvals).Nodup) (hk0 : 0 ≤ k0) (hk1 : k0 + (x.vals.length : Nat) ≤ 1000000000) :
    Calls Try.prog 17 #[.agg #[.int .i64 x.rel, vvals], .int .i64 k0] w fun e w' => e = .returned (.int .i64 (k0 + (x.vals.length : Nat))) ∧ ints w' vvals (marks (k0) x.vals.length) fvals ∧ Wrote (fvals) w w' := by
  obtain ⟨avals, cvals, rfl⟩ := slR.form hvals
  have hnovals : w.heap.size ∉ fvals := fun hx => by have := hvals.lt _ hx; omega
  have hw0 : ∀ (ff : List Nat) (o : Obj), Wrote ff w (w.alloc o) := fun ff o => Wrote.alloc (Wrote.refl ff w) o
  go_enter Try.func17, Try.ntmps17
  go_wp2_with fail
  refine (markIntS_any _ x.vals fvals _ _ (hvals.below' ((Below.refl _ _).alloc (Nat.le_refl _) _)) ⟨by omega, by omega⟩ (by omega)).mono ?_
  rintro e w1 ⟨rfl, hmvals, hw1⟩
  have hc1 := fun o => hw1.cellAt (b := w.heap.size) (o := o) (by simp) hnovals
  go_wp2
  go_ret
  exact ⟨rfl, hmvals, (hw0 _ _).trans (hw1.mono (by simp))⟩
end Go.Proofs.Ytapapnaljjnhnaa
