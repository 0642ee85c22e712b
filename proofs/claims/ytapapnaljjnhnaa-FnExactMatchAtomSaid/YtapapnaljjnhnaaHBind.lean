/- The laws' helpers at Binding and at slices of it: size, copy, comparison, marks, marks held. Conditions: the sizes that the laws themselves ask. -/
import Derived.Test.YtapapnaljjnhnaaHBase
import Derived.StillTailTactics
namespace Go.Proofs.Ytapapnaljjnhnaa
open Go.RowKit
set_option linter.unusedVariables false
set_option linter.unusedSimpArgs false
instance : DecidableEq BindD := fun a b => decidable_of_iff (a.vars = b.vars ∧ a.vals = b.vals) (by cases a; cases b; simp)
instance : Inhabited BindD := ⟨⟨[], []⟩⟩
def bulkBinding (x : BindD) : Nat := x.vars.length + x.vals.length
set_option maxHeartbeats 400000 in
theorem toBinding_any (x : BindD) (vvars vvals : Value) (w : World) (hvars : intsV w vvars x.vars) (nvars : x.vars.length ≤ 1048576) (hvals : intsV w vvals x.vals) (nvals : x.vals.length ≤ 1048576) :
    Calls Try.prog 8 #[.agg #[vvars, vvals]] w fun e w' => ∃ uvars uvals gvars gvals, e = .returned (.agg #[uvars, uvals]) ∧ ints w' uvars x.vars gvars ∧ ints w' uvals x.vals gvals ∧ Fresh w.heap.size (gvars ++ gvals) ∧ Below w.heap.size w w' := by
  obtain ⟨avars, cvars, rfl⟩ := slW.form hvars
  obtain ⟨avals, cvals, rfl⟩ := slW.form hvals
  have hb0 : ∀ o1 o2 o3 : Obj, Below w.heap.size w (((w.alloc o1).alloc o2).alloc o3) := fun o1 o2 o3 => (((Below.refl _ _).alloc (Nat.le_refl _) _).alloc (by simp) _).alloc (by simp; omega) _
  go_enter Try.func8, Try.ntmps8
  go_wp2_with fail
  refine (toIntS_any _ x.vars _ (hvars.below' ?_) nvars).mono ?_
  · repeat (refine Below.setCell ?_ (by simp <;> omega) _)
    exact hb0 _ _ _
  rintro e w1 ⟨uvars, gvars, rfl, huvars, hfvars, hb1⟩
  obtain ⟨avars', cvars', rfl⟩ := slR.form huvars
  have hz1 : w.heap.size + 2 < w1.heap.size := by have := hb1.size; simp at this; omega
  have hz1a : w.heap.size + 1 < w1.heap.size := by omega
  have hz1b : w.heap.size < w1.heap.size := by omega
  obtain ⟨hc1, hzz1⟩ := bcell hb1
  go_wp2_with fail
  refine (toIntS_any _ x.vals _ (hvals.below' ?_) nvals).mono ?_
  · repeat (refine Below.setCell ?_ (by simp <;> omega) _)
    exact (hb0 _ _ _).trans (hb1.mono (by simp; omega))
  rintro e w2 ⟨uvals, gvals, rfl, huvals, hfvals, hb2⟩
  obtain ⟨avals', cvals', rfl⟩ := slR.form huvals
  have hz2 : w.heap.size + 2 < w2.heap.size := by have := hb2.size; simp at this; omega
  have hz2a : w.heap.size + 1 < w2.heap.size := by omega
  have hz2b : w.heap.size < w2.heap.size := by omega
  obtain ⟨hc2, hzz2⟩ := bcell hb2
  have huvars' : ints w2 (.slice avars' x.vars.length cvars') x.vars gvars := by
    refine ints.below' ?_ hb2
    repeat (refine ints.far ?_ (hfvars.notin (by simp <;> omega)) _)
    exact huvars
  have hbig : ∀ g ∈ gvars, g < w1.heap.size := huvars.lt
  have hfin : Fresh w.heap.size (gvars ++ gvals) := (hfvars.mono (by simp; omega)).append hfvals (by simp; omega) (fun g hg => by have := hbig g hg; simpa using this)
  clear hbig huvars
  go_wp2
  refine bodyPost_ret (v := .agg #[.slice avars' x.vars.length cvars', .slice avals' x.vals.length cvals']) (by simp [results, Try.results8, go_sem, hc1, hzz1, hz1, hz1a, hz1b, hc2, hzz2, hz2, hz2a, hz2b]) rfl ⟨_, _, gvars, gvals, rfl, ?_, ?_, ?_, ?_⟩
  · repeat (refine ints.far ?_ (hfvars.notin (by simp <;> omega)) _)
    exact huvars'
  · repeat (refine ints.far ?_ (hfvals.notin (by simp <;> omega)) _)
    exact huvals
  · exact hfin
  · repeat (refine Below.setCell ?_ (by simp <;> omega) _)
    refine Below.trans ?_ (hb2.mono (by simp; omega))
    repeat (refine Below.setCell ?_ (by simp <;> omega) _)
    exact (hb0 _ _ _).trans (hb1.mono (by simp; omega))
set_option maxHeartbeats 800000 in
theorem eqBinding_any (x y : BindD) (vvars yvars vvals yvals : Value) (fvars gvars fvals gvals : List Nat) (w : World) (hvars : ints w vvars x.vars fvars) (kvars : ints w yvars y.vars gvars) (hvals : ints w vvals x.vals fvals) (kvals : ints w yvals y.vals gvals) :
    Calls Try.prog 12 #[.agg #[vvars, vvals], .agg #[yvars, yvals]] w fun e w' => e = .returned (.bool (decide (x = y))) ∧ Below w.heap.size w w' := by
  obtain ⟨avars, cvars, rfl⟩ := slR.form hvars
  obtain ⟨bvars, dvars, rfl⟩ := slR.form kvars
  obtain ⟨avals, cvals, rfl⟩ := slR.form hvals
  obtain ⟨bvals, dvals, rfl⟩ := slR.form kvals
  have hb0 : ∀ o1 o2 : Obj, Below w.heap.size w ((w.alloc o1).alloc o2) := fun o1 o2 => ((Below.refl _ _).alloc (Nat.le_refl _) _).alloc (by simp) _
  by_cases evars : x.vars = y.vars
  case neg =>
    have tvars : decide (x.vars = y.vars) = false := by simp [evars]
    have Hfin := Lib.hid (show decide (x = y) = false from decide_eq_false (fun h => evars (by rw [h])))
    clear evars
    go_enter Try.func12, Try.ntmps12
    go_wp2_with fail
    refine (eqIntS_any _ _ _ _ _ _ _ (hvars.below' (hb0 _ _)) (kvars.below' (hb0 _ _))).mono ?_
    rintro e w1 ⟨rfl, hb1⟩
    have hB1 := Below.trans (hb0 _ _) (hb1.mono (hb0 _ _).size)
    have hz1 : w.heap.size + 1 < w1.heap.size := by have := hb1.size; simp at this; omega
    obtain ⟨hc1, hzz1⟩ := bcell hb1
    go_wp2
    go_ret
    exact ⟨ret_bool (by rw [Hfin.out]), hB1⟩
  by_cases evals : x.vals = y.vals
  case neg =>
    have tvars : decide (x.vars = y.vars) = true := by simp [evars]
    have tvals : decide (x.vals = y.vals) = false := by simp [evals]
    have Hfin := Lib.hid (show decide (x = y) = false from decide_eq_false (fun h => evals (by rw [h])))
    clear evars
    clear evals
    go_enter Try.func12, Try.ntmps12
    go_wp2_with fail
    refine (eqIntS_any _ _ _ _ _ _ _ (hvars.below' (hb0 _ _)) (kvars.below' (hb0 _ _))).mono ?_
    rintro e w1 ⟨rfl, hb1⟩
    have hB1 := Below.trans (hb0 _ _) (hb1.mono (hb0 _ _).size)
    have hz1 : w.heap.size + 1 < w1.heap.size := by have := hb1.size; simp at this; omega
    obtain ⟨hc1, hzz1⟩ := bcell hb1
    go_wp2_with fail
    refine (eqIntS_any _ _ _ _ _ _ _ (hvals.below' hB1) (kvals.below' hB1)).mono ?_
    rintro e w2 ⟨rfl, hb2⟩
    have hB2 := hB1.trans (hb2.mono hB1.size)
    have hz2 : w.heap.size + 1 < w2.heap.size := by have := hb2.size; omega
    obtain ⟨hc2, hzz2⟩ := bcell hb2
    go_wp2
    go_ret
    exact ⟨ret_bool (by rw [Hfin.out]), hB2⟩
  have tvars : decide (x.vars = y.vars) = true := by simp [evars]
  have tvals : decide (x.vals = y.vals) = true := by simp [evals]
  have Hfin := Lib.hid (show decide (x = y) = true from decide_eq_true (by cases x; cases y; simp_all))
  clear evars
  clear evals
  go_enter Try.func12, Try.ntmps12
  go_wp2_with fail
  refine (eqIntS_any _ _ _ _ _ _ _ (hvars.below' (hb0 _ _)) (kvars.below' (hb0 _ _))).mono ?_
  rintro e w1 ⟨rfl, hb1⟩
  have hB1 := Below.trans (hb0 _ _) (hb1.mono (hb0 _ _).size)
  have hz1 : w.heap.size + 1 < w1.heap.size := by have := hb1.size; simp at this; omega
  obtain ⟨hc1, hzz1⟩ := bcell hb1
  go_wp2_with fail
  refine (eqIntS_any _ _ _ _ _ _ _ (hvals.below' hB1) (kvals.below' hB1)).mono ?_
  rintro e w2 ⟨rfl, hb2⟩
  have hB2 := hB1.trans (hb2.mono hB1.size)
  have hz2 : w.heap.size + 1 < w2.heap.size := by have := hb2.size; omega
  obtain ⟨hc2, hzz2⟩ := bcell hb2
  go_wp2
  go_ret
  exact ⟨ret_bool (by rw [Hfin.out]), hB2⟩
set_option maxHeartbeats 400000 in
theorem szBinding_any (x : BindD) (vvars vvals : Value) (b : Int) (w : World) (hvars : intsV w vvars x.vars) (hvals : intsV w vvals x.vals) (hb : 0 ≤ b ∧ b ≤ 1048576) :
    Calls Try.prog 4 #[.agg #[vvars, vvals], .int .i64 b] w fun e w' => e = .returned (.int .i64 (left (bulkBinding x) b)) ∧ Below w.heap.size w w' := by
  obtain ⟨avars, cvars, rfl⟩ := slW.form hvars
  obtain ⟨avals, cvals, rfl⟩ := slW.form hvals
  have hb0 : ∀ o1 : Obj, Below w.heap.size w (w.alloc o1) := fun o1 => (Below.refl _ _).alloc (Nat.le_refl _) _
  rcases left_cases x.vars.length b hb.1 with ⟨h0, h1⟩ | ⟨h0, h1⟩
  · have Hfin := Lib.hid (show left (bulkBinding x) b = -1 from left_over _ _ b (by omega) h1)
    go_enter Try.func4, Try.ntmps4
    go_wp2_with fail
    refine (szIntS_any _ x.vars b _ (hvars.below' (hb0 _)) hb).mono ?_
    rintro e w1 ⟨rfl, rfl⟩
    go_wp2
    go_ret
    exact ⟨ret_int (by rw [Hfin.out]), (hb0 _)⟩
  · have hb' : 0 ≤ left x.vars.length b ∧ left x.vars.length b ≤ 1048576 := by have := left_le x.vars.length b hb.1; omega
    have Hadd := Lib.hid (show left (bulkBinding x) b = left x.vals.length (left x.vars.length b) from left_add _ _ b h0)
    have hs := left_sign x.vals.length (left x.vars.length b)
    rcases left_cases x.vals.length (left x.vars.length b) hb'.1 with ⟨h2, h3⟩ | ⟨h2, h3⟩
    all_goals
      have H3 := Lib.hid h3; clear h3 h1
      go_enter Try.func4, Try.ntmps4
      go_wp2_with fail
      refine (szIntS_any _ x.vars b _ (hvars.below' (hb0 _)) hb).mono ?_
      rintro e w1 ⟨rfl, rfl⟩
      go_wp2_with fail
      refine (szIntS_any _ x.vals _ _ (hvals.below' (hb0 _)) hb').mono ?_
      rintro e w2 ⟨rfl, rfl⟩
      go_wp2
      go_ret
      exact ⟨ret_int (by have h4 := Hadd.out; have h5 := H3.out; first | (rw [h4]; done) | (rw [h4]; omega)), (hb0 _)⟩
set_option maxRecDepth 100000 in
set_option maxHeartbeats 400000 in
theorem markBinding_any (x : BindD) (vvars vvals : Value) (fvars fvals : List Nat) (k0 : Int) (w : World) (hvars : ints w vvars x.vars fvars) (hvals : ints w vvals x.vals fvals) (hnd : (fvars ++ fvals).Nodup) (hk0 : 0 ≤ k0) (hk1 : k0 + (x.vars.length + x.vals.length : Nat) ≤ 1000000000) :
    Calls Try.prog 15 #[.agg #[vvars, vvals], .int .i64 k0] w fun e w' => e = .returned (.int .i64 (k0 + (x.vars.length : Nat) + (x.vals.length : Nat))) ∧ ints w' vvars (marks (k0) x.vars.length) fvars ∧ ints w' vvals (marks (k0 + (x.vars.length : Nat)) x.vals.length) fvals ∧ Wrote (fvars ++ fvals) w w' := by
  obtain ⟨avars, cvars, rfl⟩ := slR.form hvars
  obtain ⟨avals, cvals, rfl⟩ := slR.form hvals
  have hnovars : w.heap.size ∉ fvars := fun hx => by have := hvars.lt _ hx; omega
  have hnovals : w.heap.size ∉ fvals := fun hx => by have := hvals.lt _ hx; omega
  have hw0 : ∀ (ff : List Nat) (o : Obj), Wrote ff w (w.alloc o) := fun ff o => Wrote.alloc (Wrote.refl ff w) o
  have hap := List.nodup_append.1 hnd
  have hdis : ∀ g ∈ fvals, g ∉ fvars := fun g h1 h2 => hap.2.2 g h2 g h1 rfl
  have hdis' : ∀ g ∈ fvars, g ∉ fvals := fun g h1 h2 => hap.2.2 g h1 g h2 rfl
  go_enter Try.func15, Try.ntmps15
  go_wp2_with fail
  refine (markIntS_any _ x.vars fvars _ _ (hvars.below' ((Below.refl _ _).alloc (Nat.le_refl _) _)) ⟨by omega, by omega⟩ (by omega)).mono ?_
  rintro e w1 ⟨rfl, hmvars, hw1⟩
  have hc1 := fun o => hw1.cellAt (b := w.heap.size) (o := o) (by simp) hnovars
  have hqvals : ints w1 (.slice avals x.vals.length cvals) x.vals fvals := by
    refine ints.frame (hvals.below' ((Below.refl _ _).alloc (Nat.le_refl _) (.cells #[.slice avars x.vars.length cvars, .slice avals x.vals.length cvals] 32))) fun g hg => hw1.block g ?_ (hdis g hg)
    have := hvals.lt g hg; simp; omega
  go_wp2_with fail
  refine (markIntS_any _ x.vals fvals _ _ hqvals ⟨by omega, by omega⟩ (by omega)).mono ?_
  rintro e w2 ⟨rfl, hmvals, hw2⟩
  have hc2 := fun o => hw2.cellAt (b := w.heap.size) (o := o) (by have := hw1.size; simp at this; omega) hnovals
  go_wp2
  go_ret
  exact ⟨rfl, ints.frame hmvars fun g hg => hw2.block g (hmvars.lt g hg) (hdis' g hg), hmvals, ((hw0 _ _).trans (hw1.mono (fun g hg => by simp [hg]))).trans (hw2.mono (fun g hg => by simp [hg]))⟩
set_option maxRecDepth 100000 in
set_option maxHeartbeats 400000 in
theorem heldBinding_any (x : BindD) (vvars vvals : Value) (fvars fvals : List Nat) (k0 : Int) (w : World) (hvars : ints w vvars (marks (k0) x.vars.length) fvars) (hvals : ints w vvals (marks (k0 + (x.vars.length : Nat)) x.vals.length) fvals) (hk0 : 0 ≤ k0) (hk1 : k0 + (x.vars.length + x.vals.length : Nat) ≤ 1000000000) :
    Calls Try.prog 18 #[.agg #[vvars, vvals], .int .i64 k0] w fun e w' => e = .returned (.int .i64 (k0 + (x.vars.length : Nat) + (x.vals.length : Nat))) ∧ Below w.heap.size w w' := by
  have hb0 : ∀ o1 : Obj, Below w.heap.size w (w.alloc o1) := fun o1 => (Below.refl _ _).alloc (Nat.le_refl _) _
  obtain ⟨avars, cvars, hvvars⟩ := slR.form hvars
  rw [marks_length] at hvvars
  subst hvvars
  obtain ⟨avals, cvals, hvvals⟩ := slR.form hvals
  rw [marks_length] at hvvals
  subst hvvals
  go_enter Try.func18, Try.ntmps18
  go_wp2_with fail
  refine (heldIntS_any _ x.vars.length fvars _ _ (hvars.below' (hb0 _)) ⟨by omega, by omega⟩ (by omega)).mono ?_
  rintro e w1 ⟨rfl, hb1⟩
  have hB1 := Below.trans (hb0 _) (hb1.mono (Below.size (hb0 _)))
  have hz1 : w.heap.size < w1.heap.size := by have := hb1.size; simp at this; omega
  obtain ⟨hc1, hzz1⟩ := bcell hb1
  go_wp2_with fail
  refine (heldIntS_any _ x.vals.length fvals _ _ (hvals.below' hB1) ⟨by omega, by omega⟩ (by omega)).mono ?_
  rintro e w2 ⟨rfl, hb2⟩
  have hB2 := Below.trans hB1 (hb2.mono (Below.size hB1))
  have hz2 : w.heap.size < w2.heap.size := by have := hb2.size; omega
  obtain ⟨hc2, hzz2⟩ := bcell hb2
  go_wp2
  go_ret
  exact ⟨rfl, hB2⟩
end Go.Proofs.Ytapapnaljjnhnaa
