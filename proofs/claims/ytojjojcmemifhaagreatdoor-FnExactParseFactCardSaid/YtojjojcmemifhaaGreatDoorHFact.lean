/- The laws' helpers at Fact and at slices of it: size, copy, comparison, marks, marks held. Conditions: the sizes that the laws themselves ask. -/
import Derived.Test.YtojjojcmemifhaaGreatDoorHBase
import Derived.StillTailTactics
namespace Go.Proofs.YtojjojcmemifhaaGreatDoor
open Go.RowKit
set_option linter.unusedVariables false
set_option linter.unusedSimpArgs false
instance : DecidableEq FactD := fun a b => decidable_of_iff (a.rel = b.rel ∧ a.vals = b.vals) (by cases a; cases b; simp)
instance : Inhabited FactD := ⟨⟨0, []⟩⟩
def bulkFact (x : FactD) : Nat := x.vals.length
set_option maxHeartbeats 800000 in
theorem eqFact_any (x y : FactD) (vvals yvals : Value) (fvals gvals : List Nat) (w : World) (hvals : ints w vvals x.vals fvals) (kvals : ints w yvals y.vals gvals) :
    Calls Tryz.prog 67 #[.agg #[.int .i64 x.rel, vvals], .agg #[.int .i64 y.rel, yvals]] w fun e w' => e = .returned (.bool (decide (x = y))) ∧ Below w.heap.size w w' := by
  obtain ⟨avals, cvals, rfl⟩ := slR.form hvals
  obtain ⟨bvals, dvals, rfl⟩ := slR.form kvals
  have hb0 : ∀ o1 o2 : Obj, Below w.heap.size w ((w.alloc o1).alloc o2) := fun o1 o2 => ((Below.refl _ _).alloc (Nat.le_refl _) _).alloc (by simp) _
  by_cases erel : x.rel = y.rel
  case neg =>
    have trel : (x.rel != y.rel) = true := by simp [erel]
    have Hfin := Lib.hid (show decide (x = y) = false from decide_eq_false (fun h => erel (by rw [h])))
    clear erel
    go_enter Tryz.func67, Tryz.ntmps67
    go_wp2
    go_ret
    exact ⟨ret_bool (by rw [Hfin.out]), hb0 _ _⟩
  by_cases evals : x.vals = y.vals
  case neg =>
    have trel : (x.rel != y.rel) = false := by simp [erel]
    have tvals : decide (x.vals = y.vals) = false := by simp [evals]
    have Hfin := Lib.hid (show decide (x = y) = false from decide_eq_false (fun h => evals (by rw [h])))
    clear erel
    clear evals
    go_enter Tryz.func67, Tryz.ntmps67
    go_wp2_with fail
    refine (eqIntS_any _ _ _ _ _ _ _ (hvals.below' (hb0 _ _)) (kvals.below' (hb0 _ _))).mono ?_
    rintro e w1 ⟨rfl, hb1⟩
    have hB1 := Below.trans (hb0 _ _) (hb1.mono (hb0 _ _).size)
    have hz1 : w.heap.size + 1 < w1.heap.size := by have := hb1.size; simp at this; omega
    obtain ⟨hc1, hzz1⟩ := bcell hb1
    go_wp2
    go_ret
    exact ⟨ret_bool (by rw [Hfin.out]), hB1⟩
  have trel : (x.rel != y.rel) = false := by simp [erel]
  have tvals : decide (x.vals = y.vals) = true := by simp [evals]
  have Hfin := Lib.hid (show decide (x = y) = true from decide_eq_true (by cases x; cases y; simp_all))
  clear erel
  clear evals
  go_enter Tryz.func67, Tryz.ntmps67
  go_wp2_with fail
  refine (eqIntS_any _ _ _ _ _ _ _ (hvals.below' (hb0 _ _)) (kvals.below' (hb0 _ _))).mono ?_
  rintro e w1 ⟨rfl, hb1⟩
  have hB1 := Below.trans (hb0 _ _) (hb1.mono (hb0 _ _).size)
  have hz1 : w.heap.size + 1 < w1.heap.size := by have := hb1.size; simp at this; omega
  obtain ⟨hc1, hzz1⟩ := bcell hb1
  go_wp2
  go_ret
  exact ⟨ret_bool (by rw [Hfin.out]), hB1⟩
set_option maxRecDepth 100000 in
set_option maxHeartbeats 400000 in
theorem markFact_any (x : FactD) (vvals : Value) (fvals : List Nat) (k0 : Int) (w : World) (hvals : ints w vvals x.vals fvals) (hnd : (fvals).Nodup) (hk0 : 0 ≤ k0) (hk1 : k0 + (x.vals.length : Nat) ≤ 1000000000) :
    Calls Tryz.prog 68 #[.agg #[.int .i64 x.rel, vvals], .int .i64 k0] w fun e w' => e = .returned (.int .i64 (k0 + (x.vals.length : Nat))) ∧ ints w' vvals (marks (k0) x.vals.length) fvals ∧ Wrote (fvals) w w' := by
  obtain ⟨avals, cvals, rfl⟩ := slR.form hvals
  have hnovals : w.heap.size ∉ fvals := fun hx => by have := hvals.lt _ hx; omega
  have hw0 : ∀ (ff : List Nat) (o : Obj), Wrote ff w (w.alloc o) := fun ff o => Wrote.alloc (Wrote.refl ff w) o
  go_enter Tryz.func68, Tryz.ntmps68
  go_wp2_with fail
  refine (markIntS_any _ x.vals fvals _ _ (hvals.below' ((Below.refl _ _).alloc (Nat.le_refl _) _)) ⟨by omega, by omega⟩ (by omega)).mono ?_
  rintro e w1 ⟨rfl, hmvals, hw1⟩
  have hc1 := fun o => hw1.cellAt (b := w.heap.size) (o := o) (by simp) hnovals
  go_wp2
  go_ret
  exact ⟨rfl, hmvals, (hw0 _ _).trans (hw1.mono (by simp))⟩
set_option maxRecDepth 100000 in
set_option maxHeartbeats 400000 in
theorem heldFact_any (x : FactD) (zrel : Int) (vvals : Value) (fvals : List Nat) (k0 : Int) (w : World) (hvals : ints w vvals (marks (k0) x.vals.length) fvals) (hk0 : 0 ≤ k0) (hk1 : k0 + (x.vals.length : Nat) ≤ 1000000000) :
    Calls Tryz.prog 69 #[.agg #[.int .i64 zrel, vvals], .int .i64 k0] w fun e w' => e = .returned (.int .i64 (k0 + (x.vals.length : Nat))) ∧ Below w.heap.size w w' := by
  have hb0 : ∀ o1 : Obj, Below w.heap.size w (w.alloc o1) := fun o1 => (Below.refl _ _).alloc (Nat.le_refl _) _
  obtain ⟨avals, cvals, hvvals⟩ := slR.form hvals
  rw [marks_length] at hvvals
  subst hvvals
  go_enter Tryz.func69, Tryz.ntmps69
  go_wp2_with fail
  refine (heldIntS_any _ x.vals.length fvals _ _ (hvals.below' (hb0 _)) ⟨by omega, by omega⟩ (by omega)).mono ?_
  rintro e w1 ⟨rfl, hb1⟩
  have hB1 := Below.trans (hb0 _) (hb1.mono (Below.size (hb0 _)))
  have hz1 : w.heap.size < w1.heap.size := by have := hb1.size; simp at this; omega
  obtain ⟨hc1, hzz1⟩ := bcell hb1
  go_wp2
  go_ret
  exact ⟨rfl, hB1⟩
theorem infoFactS : (Tryz.prog.info? 83).map (fun i => (i.zero, i.size, i.bytes)) = some (some (.agg #[.int .i64 0, .slice none 0 0]), 2, 32) := by kernel_rfl
theorem slFactS : SlT Tryz.prog 26 83 (.agg #[.int .i64 0, .slice none 0 0]) 2 32 := slT_of Tryz.underlying26 infoFactS rfl (by decide)
def bulkFactS (l : List FactD) : Nat := l.length + (l.map fun x => bulkFact x).sum
def markFactD (k : Int) (x : FactD) : FactD := { rel := k, vals := marks (k + 1) x.vals.length }
def cntFact (x : FactD) : Nat := 1 + x.vals.length
end Go.Proofs.YtojjojcmemifhaaGreatDoor
