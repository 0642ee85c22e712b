/- The laws' helpers at Method and at slices of it: size, copy, comparison, marks, marks held. Conditions: the sizes that the laws themselves ask. -/
import Derived.Test.YtojjojcmemifhaaDoorHBase
import Derived.StillTailTactics
namespace Go.Proofs.YtojjojcmemifhaaDoor
open Go.RowKit
set_option linter.unusedVariables false
set_option linter.unusedSimpArgs false
instance : DecidableEq MethD := fun a b => decidable_of_iff (a.rel = b.rel ∧ a.inputs = b.inputs ∧ a.limit = b.limit ∧ a.cost = b.cost ∧ a.quota = b.quota) (by cases a; cases b; simp)
instance : Inhabited MethD := ⟨⟨0, [], 0, 0, 0⟩⟩
def bulkMethod (x : MethD) : Nat := x.inputs.length
set_option maxHeartbeats 800000 in
theorem eqMethod_any (x y : MethD) (vinputs yinputs : Value) (finputs ginputs : List Nat) (w : World) (hinputs : ints w vinputs x.inputs finputs) (kinputs : ints w yinputs y.inputs ginputs) :
    Calls Tryd.prog 7 #[.agg #[.int .i64 x.rel, vinputs, .int .i64 x.limit, .int .i64 x.cost, .int .i64 x.quota], .agg #[.int .i64 y.rel, yinputs, .int .i64 y.limit, .int .i64 y.cost, .int .i64 y.quota]] w fun e w' => e = .returned (.bool (decide (x = y))) ∧ Below w.heap.size w w' := by
  obtain ⟨ainputs, cinputs, rfl⟩ := slR.form hinputs
  obtain ⟨binputs, dinputs, rfl⟩ := slR.form kinputs
  have hb0 : ∀ o1 o2 : Obj, Below w.heap.size w ((w.alloc o1).alloc o2) := fun o1 o2 => ((Below.refl _ _).alloc (Nat.le_refl _) _).alloc (by simp) _
  by_cases erel : x.rel = y.rel
  case neg =>
    have trel : (x.rel != y.rel) = true := by simp [erel]
    have Hfin := Lib.hid (show decide (x = y) = false from decide_eq_false (fun h => erel (by rw [h])))
    clear erel
    go_enter Tryd.func7, Tryd.ntmps7
    go_wp2
    go_ret
    exact ⟨ret_bool (by rw [Hfin.out]), hb0 _ _⟩
  by_cases einputs : x.inputs = y.inputs
  case neg =>
    have trel : (x.rel != y.rel) = false := by simp [erel]
    have tinputs : decide (x.inputs = y.inputs) = false := by simp [einputs]
    have Hfin := Lib.hid (show decide (x = y) = false from decide_eq_false (fun h => einputs (by rw [h])))
    clear erel
    clear einputs
    go_enter Tryd.func7, Tryd.ntmps7
    go_wp2_with fail
    refine (eqIntS_any _ _ _ _ _ _ _ (hinputs.below' (hb0 _ _)) (kinputs.below' (hb0 _ _))).mono ?_
    rintro e w1 ⟨rfl, hb1⟩
    have hB1 := Below.trans (hb0 _ _) (hb1.mono (hb0 _ _).size)
    have hz1 : w.heap.size + 1 < w1.heap.size := by have := hb1.size; simp at this; omega
    obtain ⟨hc1, hzz1⟩ := bcell hb1
    go_wp2
    go_ret
    exact ⟨ret_bool (by rw [Hfin.out]), hB1⟩
  by_cases elimit : x.limit = y.limit
  case neg =>
    have trel : (x.rel != y.rel) = false := by simp [erel]
    have tinputs : decide (x.inputs = y.inputs) = true := by simp [einputs]
    have tlimit : (x.limit != y.limit) = true := by simp [elimit]
    have Hfin := Lib.hid (show decide (x = y) = false from decide_eq_false (fun h => elimit (by rw [h])))
    clear erel
    clear einputs
    clear elimit
    go_enter Tryd.func7, Tryd.ntmps7
    go_wp2_with fail
    refine (eqIntS_any _ _ _ _ _ _ _ (hinputs.below' (hb0 _ _)) (kinputs.below' (hb0 _ _))).mono ?_
    rintro e w1 ⟨rfl, hb1⟩
    have hB1 := Below.trans (hb0 _ _) (hb1.mono (hb0 _ _).size)
    have hz1 : w.heap.size + 1 < w1.heap.size := by have := hb1.size; simp at this; omega
    obtain ⟨hc1, hzz1⟩ := bcell hb1
    go_wp2
    go_ret
    exact ⟨ret_bool (by rw [Hfin.out]), hB1⟩
  by_cases ecost : x.cost = y.cost
  case neg =>
    have trel : (x.rel != y.rel) = false := by simp [erel]
    have tinputs : decide (x.inputs = y.inputs) = true := by simp [einputs]
    have tlimit : (x.limit != y.limit) = false := by simp [elimit]
    have tcost : (x.cost != y.cost) = true := by simp [ecost]
    have Hfin := Lib.hid (show decide (x = y) = false from decide_eq_false (fun h => ecost (by rw [h])))
    clear erel
    clear einputs
    clear elimit
    clear ecost
    go_enter Tryd.func7, Tryd.ntmps7
    go_wp2_with fail
    refine (eqIntS_any _ _ _ _ _ _ _ (hinputs.below' (hb0 _ _)) (kinputs.below' (hb0 _ _))).mono ?_
    rintro e w1 ⟨rfl, hb1⟩
    have hB1 := Below.trans (hb0 _ _) (hb1.mono (hb0 _ _).size)
    have hz1 : w.heap.size + 1 < w1.heap.size := by have := hb1.size; simp at this; omega
    obtain ⟨hc1, hzz1⟩ := bcell hb1
    go_wp2
    go_ret
    exact ⟨ret_bool (by rw [Hfin.out]), hB1⟩
  by_cases equota : x.quota = y.quota
  case neg =>
    have trel : (x.rel != y.rel) = false := by simp [erel]
    have tinputs : decide (x.inputs = y.inputs) = true := by simp [einputs]
    have tlimit : (x.limit != y.limit) = false := by simp [elimit]
    have tcost : (x.cost != y.cost) = false := by simp [ecost]
    have tquota : (x.quota != y.quota) = true := by simp [equota]
    have Hfin := Lib.hid (show decide (x = y) = false from decide_eq_false (fun h => equota (by rw [h])))
    clear erel
    clear einputs
    clear elimit
    clear ecost
    clear equota
    go_enter Tryd.func7, Tryd.ntmps7
    go_wp2_with fail
    refine (eqIntS_any _ _ _ _ _ _ _ (hinputs.below' (hb0 _ _)) (kinputs.below' (hb0 _ _))).mono ?_
    rintro e w1 ⟨rfl, hb1⟩
    have hB1 := Below.trans (hb0 _ _) (hb1.mono (hb0 _ _).size)
    have hz1 : w.heap.size + 1 < w1.heap.size := by have := hb1.size; simp at this; omega
    obtain ⟨hc1, hzz1⟩ := bcell hb1
    go_wp2
    go_ret
    exact ⟨ret_bool (by rw [Hfin.out]), hB1⟩
  have trel : (x.rel != y.rel) = false := by simp [erel]
  have tinputs : decide (x.inputs = y.inputs) = true := by simp [einputs]
  have tlimit : (x.limit != y.limit) = false := by simp [elimit]
  have tcost : (x.cost != y.cost) = false := by simp [ecost]
  have tquota : (x.quota != y.quota) = false := by simp [equota]
  have Hfin := Lib.hid (show decide (x = y) = true from decide_eq_true (by cases x; cases y; simp_all))
  clear erel
  clear einputs
  clear elimit
  clear ecost
  clear equota
  go_enter Tryd.func7, Tryd.ntmps7
  go_wp2_with fail
  refine (eqIntS_any _ _ _ _ _ _ _ (hinputs.below' (hb0 _ _)) (kinputs.below' (hb0 _ _))).mono ?_
  rintro e w1 ⟨rfl, hb1⟩
  have hB1 := Below.trans (hb0 _ _) (hb1.mono (hb0 _ _).size)
  have hz1 : w.heap.size + 1 < w1.heap.size := by have := hb1.size; simp at this; omega
  obtain ⟨hc1, hzz1⟩ := bcell hb1
  go_wp2
  go_ret
  exact ⟨ret_bool (by rw [Hfin.out]), hB1⟩
set_option maxRecDepth 100000 in
set_option maxHeartbeats 400000 in
theorem markMethod_any (x : MethD) (vinputs : Value) (finputs : List Nat) (k0 : Int) (w : World) (hinputs : ints w vinputs x.inputs finputs) (hnd : (finputs).Nodup) (hk0 : 0 ≤ k0) (hk1 : k0 + (x.inputs.length : Nat) ≤ 1000000000) :
    Calls Tryd.prog 10 #[.agg #[.int .i64 x.rel, vinputs, .int .i64 x.limit, .int .i64 x.cost, .int .i64 x.quota], .int .i64 k0] w fun e w' => e = .returned (.int .i64 (k0 + (x.inputs.length : Nat))) ∧ ints w' vinputs (marks (k0) x.inputs.length) finputs ∧ Wrote (finputs) w w' := by
  obtain ⟨ainputs, cinputs, rfl⟩ := slR.form hinputs
  have hnoinputs : w.heap.size ∉ finputs := fun hx => by have := hinputs.lt _ hx; omega
  have hw0 : ∀ (ff : List Nat) (o : Obj), Wrote ff w (w.alloc o) := fun ff o => Wrote.alloc (Wrote.refl ff w) o
  go_enter Tryd.func10, Tryd.ntmps10
  go_wp2_with fail
  refine (markIntS_any _ x.inputs finputs _ _ (hinputs.below' ((Below.refl _ _).alloc (Nat.le_refl _) _)) ⟨by omega, by omega⟩ (by omega)).mono ?_
  rintro e w1 ⟨rfl, hminputs, hw1⟩
  have hc1 := fun o => hw1.cellAt (b := w.heap.size) (o := o) (by simp) hnoinputs
  go_wp2
  go_ret
  exact ⟨rfl, hminputs, (hw0 _ _).trans (hw1.mono (by simp))⟩
set_option maxRecDepth 100000 in
set_option maxHeartbeats 400000 in
theorem heldMethod_any (x : MethD) (zrel zlimit zcost zquota : Int) (vinputs : Value) (finputs : List Nat) (k0 : Int) (w : World) (hinputs : ints w vinputs (marks (k0) x.inputs.length) finputs) (hk0 : 0 ≤ k0) (hk1 : k0 + (x.inputs.length : Nat) ≤ 1000000000) :
    Calls Tryd.prog 11 #[.agg #[.int .i64 zrel, vinputs, .int .i64 zlimit, .int .i64 zcost, .int .i64 zquota], .int .i64 k0] w fun e w' => e = .returned (.int .i64 (k0 + (x.inputs.length : Nat))) ∧ Below w.heap.size w w' := by
  have hb0 : ∀ o1 : Obj, Below w.heap.size w (w.alloc o1) := fun o1 => (Below.refl _ _).alloc (Nat.le_refl _) _
  obtain ⟨ainputs, cinputs, hvinputs⟩ := slR.form hinputs
  rw [marks_length] at hvinputs
  subst hvinputs
  go_enter Tryd.func11, Tryd.ntmps11
  go_wp2_with fail
  refine (heldIntS_any _ x.inputs.length finputs _ _ (hinputs.below' (hb0 _)) ⟨by omega, by omega⟩ (by omega)).mono ?_
  rintro e w1 ⟨rfl, hb1⟩
  have hB1 := Below.trans (hb0 _) (hb1.mono (Below.size (hb0 _)))
  have hz1 : w.heap.size < w1.heap.size := by have := hb1.size; simp at this; omega
  obtain ⟨hc1, hzz1⟩ := bcell hb1
  go_wp2
  go_ret
  exact ⟨rfl, hB1⟩
end Go.Proofs.YtojjojcmemifhaaDoor
