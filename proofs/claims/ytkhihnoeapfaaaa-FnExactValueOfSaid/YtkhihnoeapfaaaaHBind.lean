/- The laws' helpers at Binding and at slices of it: size, copy, comparison, marks, marks held. Conditions: the sizes that the laws themselves ask. -/
import Derived.Test.YtkhihnoeapfaaaaHBase
import Derived.StillTailTactics
namespace Go.Proofs.Ytkhihnoeapfaaaa
open Go.RowKit
set_option linter.unusedVariables false
set_option linter.unusedSimpArgs false
instance : DecidableEq BindD := fun a b => decidable_of_iff (a.vars = b.vars ∧ a.vals = b.vals) (by cases a; cases b; simp)
instance : Inhabited BindD := ⟨⟨[], []⟩⟩
def bulkBinding (x : BindD) : Nat := x.vars.length + x.vals.length
set_option maxHeartbeats 400000 in
theorem toBinding_any (x : BindD) (vvars vvals : Value) (w : World) (hvars : intsV w vvars x.vars) (nvars : x.vars.length ≤ 1048576) (hvals : intsV w vvals x.vals) (nvals : x.vals.length ≤ 1048576) :
    Calls Try.prog 45 #[.agg #[vvars, vvals]] w fun e w' => ∃ uvars uvals gvars gvals, e = .returned (.agg #[uvars, uvals]) ∧ ints w' uvars x.vars gvars ∧ ints w' uvals x.vals gvals ∧ Fresh w.heap.size (gvars ++ gvals) ∧ Below w.heap.size w w' := by
  obtain ⟨avars, cvars, rfl⟩ := slW.form hvars
  obtain ⟨avals, cvals, rfl⟩ := slW.form hvals
  have hb0 : ∀ o1 o2 o3 : Obj, Below w.heap.size w (((w.alloc o1).alloc o2).alloc o3) := fun o1 o2 o3 => (((Below.refl _ _).alloc (Nat.le_refl _) _).alloc (by simp) _).alloc (by simp; omega) _
  go_enter Try.func45, Try.ntmps45
  go_wp2_with fail
  refine (toIntS_any _ x.vars _ (hvars.below' ?_) nvars).mono ?_
  · repeat (refine Below.setCell ?_ (by simp <;> omega) _)
    exact hb0 _ _ _
  rintro e w1 ⟨uvars, gvars, rfl, huvars, hfvars, hb1⟩
  obtain ⟨avars', cvars', rfl⟩ := slR.form huvars
  have hz1 : w.heap.size + 2 < w1.heap.size := by have := hb1.size; simp at this; omega
  have hz1a : w.heap.size + 1 < w1.heap.size := by omega
  have hz1b : w.heap.size < w1.heap.size := by omega
  obtain ⟨hc1, hzz1⟩ := bcell hb1
  go_wp2_with fail
  refine (toIntS_any _ x.vals _ (hvals.below' ?_) nvals).mono ?_
  · repeat (refine Below.setCell ?_ (by simp <;> omega) _)
    exact (hb0 _ _ _).trans (hb1.mono (by simp; omega))
  rintro e w2 ⟨uvals, gvals, rfl, huvals, hfvals, hb2⟩
  obtain ⟨avals', cvals', rfl⟩ := slR.form huvals
  have hz2 : w.heap.size + 2 < w2.heap.size := by have := hb2.size; simp at this; omega
  have hz2a : w.heap.size + 1 < w2.heap.size := by omega
  have hz2b : w.heap.size < w2.heap.size := by omega
  obtain ⟨hc2, hzz2⟩ := bcell hb2
  have huvars' : ints w2 (.slice avars' x.vars.length cvars') x.vars gvars := by
    refine ints.below' ?_ hb2
    repeat (refine ints.far ?_ (hfvars.notin (by simp <;> omega)) _)
    exact huvars
  have hbig : ∀ g ∈ gvars, g < w1.heap.size := huvars.lt
  have hfin : Fresh w.heap.size (gvars ++ gvals) := (hfvars.mono (by simp; omega)).append hfvals (by simp; omega) (fun g hg => by have := hbig g hg; simpa using this)
  clear hbig huvars
  go_wp2
  refine bodyPost_ret (v := .agg #[.slice avars' x.vars.length cvars', .slice avals' x.vals.length cvals']) (by simp [results, Try.results45, go_sem, hc1, hzz1, hz1, hz1a, hz1b, hc2, hzz2, hz2, hz2a, hz2b]) rfl ⟨_, _, gvars, gvals, rfl, ?_, ?_, ?_, ?_⟩
  · repeat (refine ints.far ?_ (hfvars.notin (by simp <;> omega)) _)
    exact huvars'
  · repeat (refine ints.far ?_ (hfvals.notin (by simp <;> omega)) _)
    exact huvals
  · exact hfin
  · repeat (refine Below.setCell ?_ (by simp <;> omega) _)
    refine Below.trans ?_ (hb2.mono (by simp; omega))
    repeat (refine Below.setCell ?_ (by simp <;> omega) _)
    exact (hb0 _ _ _).trans (hb1.mono (by simp; omega))
set_option maxHeartbeats 800000 in
theorem eqBinding_any (x y : BindD) (vvars yvars vvals yvals : Value) (fvars gvars fvals gvals : List Nat) (w : World) (hvars : ints w vvars x.vars fvars) (kvars : ints w yvars y.vars gvars) (hvals : ints w vvals x.vals fvals) (kvals : ints w yvals y.vals gvals) :
    Calls Try.prog 47 #[.agg #[vvars, vvals], .agg #[yvars, yvals]] w fun e w' => e = .returned (.bool (decide (x = y))) ∧ Below w.heap.size w w' := by
  obtain ⟨avars, cvars, rfl⟩ := slR.form hvars
  obtain ⟨bvars, dvars, rfl⟩ := slR.form kvars
  obtain ⟨avals, cvals, rfl⟩ := slR.form hvals
  obtain ⟨bvals, dvals, rfl⟩ := slR.form kvals
  have hb0 : ∀ o1 o2 : Obj, Below w.heap.size w ((w.alloc o1).alloc o2) := fun o1 o2 => ((Below.refl _ _).alloc (Nat.le_refl _) _).alloc (by simp) _
  by_cases evars : x.vars = y.vars
  case neg =>
    have tvars : decide (x.vars = y.vars) = false := by simp [evars]
    have Hfin := Lib.hid (show decide (x = y) = false from decide_eq_false (fun h => evars (by rw [h])))
    clear evars
    go_enter Try.func47, Try.ntmps47
    go_wp2_with fail
    refine (eqIntS_any _ _ _ _ _ _ _ (hvars.below' (hb0 _ _)) (kvars.below' (hb0 _ _))).mono ?_
    rintro e w1 ⟨rfl, hb1⟩
    have hB1 := Below.trans (hb0 _ _) (hb1.mono (hb0 _ _).size)
    have hz1 : w.heap.size + 1 < w1.heap.size := by have := hb1.size; simp at this; omega
    obtain ⟨hc1, hzz1⟩ := bcell hb1
    go_wp2
    go_ret
    exact ⟨ret_bool (by rw [Hfin.out]), hB1⟩
  by_cases evals : x.vals = y.vals
  case neg =>
    have tvars : decide (x.vars = y.vars) = true := by simp [evars]
    have tvals : decide (x.vals = y.vals) = false := by simp [evals]
    have Hfin := Lib.hid (show decide (x = y) = false from decide_eq_false (fun h => evals (by rw [h])))
    clear evars
    clear evals
    go_enter Try.func47, Try.ntmps47
    go_wp2_with fail
    refine (eqIntS_any _ _ _ _ _ _ _ (hvars.below' (hb0 _ _)) (kvars.below' (hb0 _ _))).mono ?_
    rintro e w1 ⟨rfl, hb1⟩
    have hB1 := Below.trans (hb0 _ _) (hb1.mono (hb0 _ _).size)
    have hz1 : w.heap.size + 1 < w1.heap.size := by have := hb1.size; simp at this; omega
    obtain ⟨hc1, hzz1⟩ := bcell hb1
    go_wp2_with fail
    refine (eqIntS_any _ _ _ _ _ _ _ (hvals.below' hB1) (kvals.below' hB1)).mono ?_
    rintro e w2 ⟨rfl, hb2⟩
    have hB2 := hB1.trans (hb2.mono hB1.size)
    have hz2 : w.heap.size + 1 < w2.heap.size := by have := hb2.size; omega
    obtain ⟨hc2, hzz2⟩ := bcell hb2
    go_wp2
    go_ret
    exact ⟨ret_bool (by rw [Hfin.out]), hB2⟩
  have tvars : decide (x.vars = y.vars) = true := by simp [evars]
  have tvals : decide (x.vals = y.vals) = true := by simp [evals]
  have Hfin := Lib.hid (show decide (x = y) = true from decide_eq_true (by cases x; cases y; simp_all))
  clear evars
  clear evals
  go_enter Try.func47, Try.ntmps47
  go_wp2_with fail
  refine (eqIntS_any _ _ _ _ _ _ _ (hvars.below' (hb0 _ _)) (kvars.below' (hb0 _ _))).mono ?_
  rintro e w1 ⟨rfl, hb1⟩
  have hB1 := Below.trans (hb0 _ _) (hb1.mono (hb0 _ _).size)
  have hz1 : w.heap.size + 1 < w1.heap.size := by have := hb1.size; simp at this; omega
  obtain ⟨hc1, hzz1⟩ := bcell hb1
  go_wp2_with fail
  refine (eqIntS_any _ _ _ _ _ _ _ (hvals.below' hB1) (kvals.below' hB1)).mono ?_
  rintro e w2 ⟨rfl, hb2⟩
  have hB2 := hB1.trans (hb2.mono hB1.size)
  have hz2 : w.heap.size + 1 < w2.heap.size := by have := hb2.size; omega
  obtain ⟨hc2, hzz2⟩ := bcell hb2
  go_wp2
  go_ret
  exact ⟨ret_bool (by rw [Hfin.out]), hB2⟩
set_option maxHeartbeats 400000 in
theorem szBinding_any (x : BindD) (vvars vvals : Value) (b : Int) (w : World) (hvars : intsV w vvars x.vars) (hvals : intsV w vvals x.vals) (hb : 0 ≤ b ∧ b ≤ 1048576) :
    Calls Try.prog 43 #[.agg #[vvars, vvals], .int .i64 b] w fun e w' => e = .returned (.int .i64 (left (bulkBinding x) b)) ∧ Below w.heap.size w w' := by
  obtain ⟨avars, cvars, rfl⟩ := slW.form hvars
  obtain ⟨avals, cvals, rfl⟩ := slW.form hvals
  have hb0 : ∀ o1 : Obj, Below w.heap.size w (w.alloc o1) := fun o1 => (Below.refl _ _).alloc (Nat.le_refl _) _
  rcases left_cases x.vars.length b hb.1 with ⟨h0, h1⟩ | ⟨h0, h1⟩
  · have Hfin := Lib.hid (show left (bulkBinding x) b = -1 from left_over _ _ b (by omega) h1)
    go_enter Try.func43, Try.ntmps43
    go_wp2_with fail
    refine (szIntS_any _ x.vars b _ (hvars.below' (hb0 _)) hb).mono ?_
    rintro e w1 ⟨rfl, rfl⟩
    go_wp2
    go_ret
    exact ⟨ret_int (by rw [Hfin.out]), (hb0 _)⟩
  · have hb' : 0 ≤ left x.vars.length b ∧ left x.vars.length b ≤ 1048576 := by have := left_le x.vars.length b hb.1; omega
    have Hadd := Lib.hid (show left (bulkBinding x) b = left x.vals.length (left x.vars.length b) from left_add _ _ b h0)
    have hs := left_sign x.vals.length (left x.vars.length b)
    rcases left_cases x.vals.length (left x.vars.length b) hb'.1 with ⟨h2, h3⟩ | ⟨h2, h3⟩
    all_goals
      have H3 := Lib.hid h3; clear h3 h1
      go_enter Try.func43, Try.ntmps43
      go_wp2_with fail
      refine (szIntS_any _ x.vars b _ (hvars.below' (hb0 _)) hb).mono ?_
      rintro e w1 ⟨rfl, rfl⟩
      go_wp2_with fail
      refine (szIntS_any _ x.vals _ _ (hvals.below' (hb0 _)) hb').mono ?_
      rintro e w2 ⟨rfl, rfl⟩
      go_wp2
      go_ret
      exact ⟨ret_int (by have h4 := Hadd.out; have h5 := H3.out; first | (rw [h4]; done) | (rw [h4]; omega)), (hb0 _)⟩
set_option maxRecDepth 100000 in
set_option maxHeartbeats 400000 in
theorem markBinding_any (x : BindD) (vvars vvals : Value) (fvars fvals : List Nat) (k0 : Int) (w : World) (hvars : ints w vvars x.vars fvars) (hvals : ints w vvals x.vals fvals) (hnd : (fvars ++ fvals).Nodup) (hk0 : 0 ≤ k0) (hk1 : k0 + (x.vars.length + x.vals.length : Nat) ≤ 1000000000) :
    Calls Try.prog 111 #[.agg #[vvars, vvals], .int .i64 k0] w fun e w' => e = .returned (.int .i64 (k0 + (x.vars.length : Nat) + (x.vals.length : Nat))) ∧ ints w' vvars (marks (k0) x.vars.length) fvars ∧ ints w' vvals (marks (k0 + (x.vars.length : Nat)) x.vals.length) fvals ∧ Wrote (fvars ++ fvals) w w' := by
  obtain ⟨avars, cvars, rfl⟩ := slR.form hvars
  obtain ⟨avals, cvals, rfl⟩ := slR.form hvals
  have hnovars : w.heap.size ∉ fvars := fun hx => by have := hvars.lt _ hx; omega
  have hnovals : w.heap.size ∉ fvals := fun hx => by have := hvals.lt _ hx; omega
  have hw0 : ∀ (ff : List Nat) (o : Obj), Wrote ff w (w.alloc o) := fun ff o => Wrote.alloc (Wrote.refl ff w) o
  have hap := List.nodup_append.1 hnd
  have hdis : ∀ g ∈ fvals, g ∉ fvars := fun g h1 h2 => hap.2.2 g h2 g h1 rfl
  have hdis' : ∀ g ∈ fvars, g ∉ fvals := fun g h1 h2 => hap.2.2 g h1 g h2 rfl
  go_enter Try.func111, Try.ntmps111
  go_wp2_with fail
  refine (markIntS_any _ x.vars fvars _ _ (hvars.below' ((Below.refl _ _).alloc (Nat.le_refl _) _)) ⟨by omega, by omega⟩ (by omega)).mono ?_
  rintro e w1 ⟨rfl, hmvars, hw1⟩
  have hc1 := fun o => hw1.cellAt (b := w.heap.size) (o := o) (by simp) hnovars
  have hqvals : ints w1 (.slice avals x.vals.length cvals) x.vals fvals := by
    refine ints.frame (hvals.below' ((Below.refl _ _).alloc (Nat.le_refl _) (.cells #[.slice avars x.vars.length cvars, .slice avals x.vals.length cvals] 36))) fun g hg => hw1.block g ?_ (hdis g hg)
    have := hvals.lt g hg; simp; omega
  go_wp2_with fail
  refine (markIntS_any _ x.vals fvals _ _ hqvals ⟨by omega, by omega⟩ (by omega)).mono ?_
  rintro e w2 ⟨rfl, hmvals, hw2⟩
  have hc2 := fun o => hw2.cellAt (b := w.heap.size) (o := o) (by have := hw1.size; simp at this; omega) hnovals
  go_wp2
  go_ret
  exact ⟨rfl, ints.frame hmvars fun g hg => hw2.block g (hmvars.lt g hg) (hdis' g hg), hmvals, ((hw0 _ _).trans (hw1.mono (fun g hg => by simp [hg]))).trans (hw2.mono (fun g hg => by simp [hg]))⟩
set_option maxRecDepth 100000 in
set_option maxHeartbeats 400000 in
theorem heldBinding_any (x : BindD) (vvars vvals : Value) (fvars fvals : List Nat) (k0 : Int) (w : World) (hvars : ints w vvars (marks (k0) x.vars.length) fvars) (hvals : ints w vvals (marks (k0 + (x.vars.length : Nat)) x.vals.length) fvals) (hk0 : 0 ≤ k0) (hk1 : k0 + (x.vars.length + x.vals.length : Nat) ≤ 1000000000) :
    Calls Try.prog 114 #[.agg #[vvars, vvals], .int .i64 k0] w fun e w' => e = .returned (.int .i64 (k0 + (x.vars.length : Nat) + (x.vals.length : Nat))) ∧ Below w.heap.size w w' := by
  have hb0 : ∀ o1 : Obj, Below w.heap.size w (w.alloc o1) := fun o1 => (Below.refl _ _).alloc (Nat.le_refl _) _
  obtain ⟨avars, cvars, hvvars⟩ := slR.form hvars
  rw [marks_length] at hvvars
  subst hvvars
  obtain ⟨avals, cvals, hvvals⟩ := slR.form hvals
  rw [marks_length] at hvvals
  subst hvvals
  go_enter Try.func114, Try.ntmps114
  go_wp2_with fail
  refine (heldIntS_any _ x.vars.length fvars _ _ (hvars.below' (hb0 _)) ⟨by omega, by omega⟩ (by omega)).mono ?_
  rintro e w1 ⟨rfl, hb1⟩
  have hB1 := Below.trans (hb0 _) (hb1.mono (Below.size (hb0 _)))
  have hz1 : w.heap.size < w1.heap.size := by have := hb1.size; simp at this; omega
  obtain ⟨hc1, hzz1⟩ := bcell hb1
  go_wp2_with fail
  refine (heldIntS_any _ x.vals.length fvals _ _ (hvals.below' hB1) ⟨by omega, by omega⟩ (by omega)).mono ?_
  rintro e w2 ⟨rfl, hb2⟩
  have hB2 := Below.trans hB1 (hb2.mono (Below.size hB1))
  have hz2 : w.heap.size < w2.heap.size := by have := hb2.size; omega
  obtain ⟨hc2, hzz2⟩ := bcell hb2
  go_wp2
  go_ret
  exact ⟨rfl, hB2⟩
theorem infoBindingS : (Try.prog.info? 36).map (fun i => (i.zero, i.size, i.bytes)) = some (some (.agg #[.slice none 0 0, .slice none 0 0]), 2, 48) := by kernel_rfl
theorem slBindingS : SlT Try.prog 128 36 (.agg #[.slice none 0 0, .slice none 0 0]) 2 48 := slT_of Try.underlying128 infoBindingS rfl (by decide)
def bulkBindingS (l : List BindD) : Nat := l.length + (l.map fun x => bulkBinding x).sum
set_option maxRecDepth 100000 in
set_option maxHeartbeats 800000 in
theorem eqBindingS_any (va vb : Value) (l m : List BindD) (fa fb : List Nat) (w : World) (ha : binds w va l fa) (hb : binds w vb m fb) :
    Calls Try.prog 122 #[va, vb] w fun e w' => e = .returned (.bool (decide (l = m))) ∧ Below w.heap.size w w' := by
  obtain ⟨a, cap, rfl⟩ := slR.form ha
  obtain ⟨b, cap', rfl⟩ := slR.form hb
  have hla := slR.le_max ha
  by_cases hlen : l.length = m.length
  · have Hlen := Lib.hid hlen
    have hle : m.length ≤ l.length := by omega
    have hge : l.length ≤ m.length := by omega
    have hne0 : ((l.length : Int) != (m.length : Int)) = false := by simp [hlen]
    clear hlen
    go_enter Try.func122, Try.ntmps122
    go_wp2
    go_loopw [5] (fun i wr => ∃ k : Nat, i = .int .i64 k ∧ k ≤ l.length ∧ Hid (l.take k = m.take k) ∧ Below w.heap.size w wr) (fun i _ => l.length - (intOf i).toNat)
    case atStart => exact ⟨0, rfl, Nat.zero_le _, Lib.hid (by simp), Below.refl _ _⟩
    case round =>
      obtain ⟨k, rfl, hk, HT, hbel⟩ := hrel
      by_cases hlt : k < l.length
      · obtain ⟨g, c, fi, rfl, ⟨pxvars, pxvals, pfvars, pfvals, rfl, pf, phvars, phvals⟩, _, hc, _, _, _⟩ := slR.at (ha.below' hbel) k hlt
        obtain ⟨g', c', fi', rfl, ⟨qxvars, qxvals, qfvars, qfvals, rfl, qf, qhvars, qhvals⟩, _, hc', _, _, _⟩ := slR.at (hb.below' hbel) k (by omega)
        have hp0 : wr.cell? ⟨g, k * 2, none⟩ = _ := hc 0 _ rfl
        have hq0 : wr.cell? ⟨g', k * 2, none⟩ = _ := hc' 0 _ rfl
        have hp1 : wr.cell? ⟨g, k * 2 + 1, none⟩ = _ := hc 1 _ rfl
        have hq1 : wr.cell? ⟨g', k * 2 + 1, none⟩ = _ := hc' 1 _ rfl
        clear hc hc'
        have hkm : (k : Int) < (m.length : Int) := by omega
        have hkl : (k : Int) < (l.length : Int) := by omega
        by_cases he : l[k] = m[k]
        · have HS := Lib.hid (take_eq_step hlt (by omega) HT.out he)
          have hne : decide (l[k] = m[k]) = true := by simp [he]
          clear he
          go_wp2
          have Hla := Lib.hid hla; clear hla
          refine wp_region_still_tail 8 (by kernel_rfl) (by kernel_rfl) ?_
          change wpStill _ _ (World.drew _) _ _ _
          simp only [List.take_succ_cons, List.take_zero, List.drop_succ_cons, List.drop_zero]
          iterate 8 still_step
          refine wpStill_nil ?_
          have hla := Hla.out
          change wpList _ _ _ _ _ wr.drew
          go_wp2_with fail
          refine (eqBinding_any l[k] m[k] _ _ _ _ _ _ _ _ _ (phvars.below' (Below.drew (Below.refl _ _))) (qhvars.below' (Below.drew (Below.refl _ _))) (phvals.below' (Below.drew (Below.refl _ _))) (qhvals.below' (Below.drew (Below.refl _ _)))).mono ?_
          rintro e w1 ⟨rfl, hb1⟩
          have hb2 : Below w.heap.size w w1 := Below.trans hbel.drew (hb1.mono hbel.size)
          go_wp2
          go_roundw
          case rel => exact ⟨k + 1, by go_num, by omega, HS, hb2⟩
          case measure => simp [intOf]; omega
        · have Hfin := Lib.hid (ne_of_get hlt (by omega) he)
          have hne : decide (l[k] = m[k]) = false := by simp [he]
          clear he
          go_wp2
          have Hla := Lib.hid hla; clear hla
          refine wp_region_still_tail 8 (by kernel_rfl) (by kernel_rfl) ?_
          change wpStill _ _ (World.drew _) _ _ _
          simp only [List.take_succ_cons, List.take_zero, List.drop_succ_cons, List.drop_zero]
          iterate 8 still_step
          refine wpStill_nil ?_
          have hla := Hla.out
          change wpList _ _ _ _ _ wr.drew
          go_wp2_with fail
          refine (eqBinding_any l[k] m[k] _ _ _ _ _ _ _ _ _ (phvars.below' (Below.drew (Below.refl _ _))) (qhvars.below' (Below.drew (Below.refl _ _))) (phvals.below' (Below.drew (Below.refl _ _))) (qhvals.below' (Below.drew (Below.refl _ _)))).mono ?_
          rintro e w1 ⟨rfl, hb1⟩
          have hb2 : Below w.heap.size w w1 := Below.trans hbel.drew (hb1.mono hbel.size)
          go_wp2
          go_ret
          exact ⟨ret_bool (by simp [Hfin.out]), hb2⟩
      · have hkl : k = l.length := by omega
        have Hfin := Lib.hid (eq_of_take Hlen.out (by have := HT.out; rw [hkl] at this; exact this))
        go_wp2
        go_ret
        exact ⟨ret_bool (by simp [Hfin.out]), hbel⟩
  · have hne0 : ((l.length : Int) != (m.length : Int)) = true := by simp; omega
    have Hfin := Lib.hid (show l ≠ m from fun h => hlen (by rw [h]))
    clear hlen
    go_enter Try.func122, Try.ntmps122
    go_wp2
    go_ret
    exact ⟨ret_bool (by simp [Hfin.out]), Below.refl _ _⟩
def markBindingD (k : Int) (x : BindD) : BindD := { vars := marks (k) x.vars.length, vals := marks (k + (x.vars.length : Int)) x.vals.length }
def cntBinding (x : BindD) : Nat := x.vars.length + x.vals.length
set_option maxRecDepth 100000 in
set_option maxHeartbeats 1600000 in
theorem markBindingS_any (v : Value) (l : List BindD) (f : List Nat) (k0 : Int) (w : World) (h : binds w v l f) (hnd : f.Nodup) (hk0 : 0 ≤ k0) (hk1 : k0 + ((l.map cntBinding).sum : Nat) ≤ 1000000000) :
    Calls Try.prog 125 #[v, .int .i64 k0] w fun e w' => e = .returned (.int .i64 (k0 + ((l.map cntBinding).sum : Nat))) ∧ binds w' v (markL markBindingD cntBinding k0 l) f ∧ Wrote f w w' := by
  obtain ⟨a, cap, rfl⟩ := slR.form h
  have hla := slR.le_max h
  go_enter Try.func125, Try.ntmps125
  go_wp2
  go_loopw [1, 5] (fun x i wr => ∃ j m : Nat, i = .int .i64 j ∧ j ≤ l.length ∧ x = .int .i64 (k0 + m) ∧ Hid (((l.map cntBinding).take j).sum = m) ∧ binds wr (.slice a l.length cap) (markL markBindingD cntBinding k0 (l.take j) ++ l.drop j) f ∧ Wrote f w wr) (fun _ i _ => l.length - (intOf i).toNat)
  case atStart => exact ⟨0, 0, rfl, Nat.zero_le _, by simp, Lib.hid (by simp), by simpa [markL] using h, Wrote.refl _ _⟩
  case round =>
    obtain ⟨j, m, rfl, hj, rfl, HM, hr, hwr⟩ := hrel
    by_cases hlt : j < l.length
    · have hjl : j < (markL markBindingD cntBinding k0 (l.take j) ++ l.drop j).length := by simp [markL_length]; omega
      have hle : m + cntBinding l[j] ≤ (l.map cntBinding).sum := by have := sum_take_le (l.map cntBinding) j (by simpa using hlt) m HM.out; simpa using this
      have hcnt : cntBinding l[j] = l[j].vars.length + l[j].vals.length := rfl
      have HS := Lib.hid (markL_step (mk := markBindingD) (cnt := cntBinding) k0 l j hlt m HM.out)
      have HN := Lib.hid (sum_take_step (l.map cntBinding) j (by simpa using hlt) m HM.out)
      obtain ⟨g, c, fi, rfl, ho, hR⟩ := slR.open good_bind hr hnd hjl
      rw [markL_at k0 l j hlt hjl] at hR
      obtain ⟨xvars, xvals, evars, evals, rfl, hfi, hvars, hvals⟩ := hR
      have hmem := ho.mem
      subst hfi
      have hap := List.nodup_append.1 hmem.2.2.2
      clear hr h
      have hc0_0 : wr.cell? ⟨g, j * 2, none⟩ = _ := ho.cell (by omega) 0 _ rfl
      have hz0_0 := ho.frozen (by omega) (j * 2)
      have hc0_1 : wr.cell? ⟨g, j * 2 + 1, none⟩ = _ := ho.cell (by omega) 1 _ rfl
      have hz0_1 := ho.frozen (by omega) (j * 2 + 1)
      go_wp2_with fail
      refine (markIntS_any _ l[j].vars evars _ _ hvars ⟨by omega, by omega⟩ (by omega)).mono ?_
      rintro e w0 ⟨rfl, hmvars, hw0⟩
      have ho0 := ho.wrote hw0 (fun x hx => by simp [hx])
      have hvals_0 : ints w0 xvals _ evals := ints.frame hvals fun g hg => hw0.block g (ints.lt hvals g hg) (fun h2 => hap.2.2 _ h2 _ hg rfl)
      have hc1_0 : w0.cell? ⟨g, j * 2, none⟩ = _ := ho0.cell (by omega) 0 _ rfl
      have hz1_0 := ho0.frozen (by omega) (j * 2)
      have hc1_1 : w0.cell? ⟨g, j * 2 + 1, none⟩ = _ := ho0.cell (by omega) 1 _ rfl
      have hz1_1 := ho0.frozen (by omega) (j * 2 + 1)
      go_wp2_with fail
      refine (markIntS_any _ l[j].vals evals _ _ hvals_0 ⟨by omega, by omega⟩ (by omega)).mono ?_
      rintro e w1 ⟨rfl, hmvals, hw1⟩
      have ho1 := ho0.wrote hw1 (fun x hx => by simp [hx])
      have hvars_1 : ints w1 xvars _ evars := ints.frame hmvars fun g hg => hw1.block g (ints.lt hmvars g hg) (fun h2 => hap.2.2 _ hg _ h2 rfl)
      have hs := ho1.shut (d := markBindingD (k0 + (m : Int)) l[j]) (by exact ⟨_, _, _, _, rfl, rfl, hvars_1, hmvals⟩)
      rw [HS.out] at hs
      have hwr0 := Wrote.trans hwr (Wrote.mono hw0 (fun x hx => hmem.2.2.1 x (by simp [hx])))
      have hwr1 := Wrote.trans hwr0 (Wrote.mono hw1 (fun x hx => hmem.2.2.1 x (by simp [hx])))
      clear hmem ho
      go_wp2
      go_roundw
      case rel => exact ⟨j + 1, m + cntBinding l[j], by go_num, by omega, by rw [hcnt]; go_num, Lib.hid (by have := HN.out; simpa using this), hs, hwr1⟩
      case measure => simp [intOf]; omega
    · have hkl : j = l.length := by omega
      have HM2 := Lib.hid (show (l.map cntBinding).sum = m by have := HM.out; rw [hkl, List.take_of_length_le (by simp)] at this; exact this)
      have hr' : binds wr (.slice a l.length cap) (markL markBindingD cntBinding k0 l) f := by rw [hkl] at hr; simpa using hr
      subst hkl
      clear hr
      go_wp2
      go_ret
      exact ⟨ret_int (by rw [HM2.out]), hr', hwr⟩
set_option maxRecDepth 100000 in
set_option maxHeartbeats 1600000 in
theorem heldBindingS_any (v : Value) (l : List BindD) (f : List Nat) (k0 : Int) (w : World) (h : binds w v (markL markBindingD cntBinding k0 l) f) (hk0 : 0 ≤ k0) (hk1 : k0 + ((l.map cntBinding).sum : Nat) ≤ 1000000000) :
    Calls Try.prog 126 #[v, .int .i64 k0] w fun e w' => e = .returned (.int .i64 (k0 + ((l.map cntBinding).sum : Nat))) ∧ Below w.heap.size w w' := by
  obtain ⟨a, cap, hv⟩ := slR.form h
  have hla := slR.le_max h
  rw [markL_length] at hv hla
  subst hv
  go_enter Try.func126, Try.ntmps126
  go_wp2
  go_loopw [1, 5] (fun x i wr => ∃ j m : Nat, i = .int .i64 j ∧ j ≤ l.length ∧ x = .int .i64 (k0 + m) ∧ Hid (((l.map cntBinding).take j).sum = m) ∧ Below w.heap.size w wr) (fun _ i _ => l.length - (intOf i).toNat)
  case atStart => exact ⟨0, 0, rfl, Nat.zero_le _, by simp, Lib.hid (by simp), Below.refl _ _⟩
  case round =>
    obtain ⟨j, m, rfl, hj, rfl, HM, hbel⟩ := hrel
    by_cases hlt : j < l.length
    · have hjl : j < (markL markBindingD cntBinding k0 l).length := by rw [markL_length]; exact hlt
      have hle : m + cntBinding l[j] ≤ (l.map cntBinding).sum := by have := sum_take_le (l.map cntBinding) j (by simpa using hlt) m HM.out; simpa using this
      have hcnt : cntBinding l[j] = l[j].vars.length + l[j].vals.length := rfl
      have HN := Lib.hid (sum_take_step (l.map cntBinding) j (by simpa using hlt) m HM.out)
      obtain ⟨g, c, fi, rfl, hR, _, hc, _, _, _⟩ := slR.at (h.below' hbel) j hjl
      rw [markL_get k0 l j hlt m HM.out hjl] at hR
      obtain ⟨xvars, xvals, evars, evals, rfl, hfi, hvars, hvals⟩ := hR
      have hc0 : wr.cell? ⟨g, j * 2, none⟩ = some xvars := hc 0 _ rfl
      have hc1 : wr.cell? ⟨g, j * 2 + 1, none⟩ = some xvals := hc 1 _ rfl
      have hhvars : ints wr xvars (marks (k0 + (m : Int)) l[j].vars.length) evars := hvars
      have hhvals : ints wr xvals (marks (k0 + (m : Int) + (l[j].vars.length : Int)) l[j].vals.length) evals := hvals
      clear hc
      go_wp2_with fail
      refine (heldIntS_any _ l[j].vars.length _ _ _ hhvars ⟨by omega, by omega⟩ (by omega)).mono ?_
      rintro e w1 ⟨rfl, hb1⟩
      have hB1 := Below.trans hbel (hb1.mono (Below.size hbel))
      have hb1_ : Below wr.heap.size wr w1 := hb1
      have hc0_1 : w1.cell? ⟨g, j * 2, none⟩ = _ := cell_below hc0 hb1_
      have hc1_1 : w1.cell? ⟨g, j * 2 + 1, none⟩ = _ := cell_below hc1 hb1_
      go_wp2_with fail
      refine (heldIntS_any _ l[j].vals.length _ _ _ (hhvals.below' hb1_) ⟨by omega, by omega⟩ (by omega)).mono ?_
      rintro e w2 ⟨rfl, hb2⟩
      have hB2 := Below.trans hB1 (hb2.mono (Below.size hB1))
      have hb2_ : Below wr.heap.size wr w2 := Below.trans hb1_ (hb2.mono (Below.size hb1_))
      have hc0_2 : w2.cell? ⟨g, j * 2, none⟩ = _ := cell_below hc0 hb2_
      have hc1_2 : w2.cell? ⟨g, j * 2 + 1, none⟩ = _ := cell_below hc1 hb2_
      go_wp2
      go_roundw
      case rel => exact ⟨j + 1, m + cntBinding l[j], by go_num, by omega, by rw [hcnt]; go_num, Lib.hid (by have := HN.out; simpa using this), hB2⟩
      case measure => simp [intOf]; omega
    · have hkl : j = l.length := by omega
      have HM2 := Lib.hid (show (l.map cntBinding).sum = m by have := HM.out; rw [hkl, List.take_of_length_le (by simp)] at this; exact this)
      subst hkl
      go_wp2
      go_ret
      exact ⟨ret_int (by rw [HM2.out]), hbel⟩
end Go.Proofs.Ytkhihnoeapfaaaa
