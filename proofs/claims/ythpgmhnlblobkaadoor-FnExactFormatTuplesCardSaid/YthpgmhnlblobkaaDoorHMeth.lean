/- The laws' helpers at Method and at slices of it: size, copy, comparison, marks, marks held. Conditions: the sizes that the laws themselves ask. -/
import Derived.Test.YthpgmhnlblobkaaDoorHBase
import Derived.StillTailTactics
namespace Go.Proofs.YthpgmhnlblobkaaDoor
open Go.RowKit
set_option linter.unusedVariables false
set_option linter.unusedSimpArgs false
instance : DecidableEq MethD := fun a b => decidable_of_iff (a.rel = b.rel ∧ a.inputs = b.inputs ∧ a.limit = b.limit ∧ a.cost = b.cost ∧ a.quota = b.quota) (by cases a; cases b; simp)
instance : Inhabited MethD := ⟨⟨0, [], 0, 0, 0⟩⟩
def bulkMethod (x : MethD) : Nat := x.inputs.length
set_option maxHeartbeats 400000 in
theorem toMethod_any (x : MethD) (vinputs : Value) (w : World) (hinputs : intsV w vinputs x.inputs) (ninputs : x.inputs.length ≤ 1048576) :
    Calls Tryd.prog 43 #[.agg #[.int .i64 x.rel, vinputs, .int .i64 x.limit, .int .i64 x.cost, .int .i64 x.quota]] w fun e w' => ∃ uinputs ginputs, e = .returned (.agg #[.int .i64 x.rel, uinputs, .int .i64 x.limit, .int .i64 x.cost, .int .i64 x.quota]) ∧ ints w' uinputs x.inputs ginputs ∧ Fresh w.heap.size (ginputs) ∧ Below w.heap.size w w' := by
  obtain ⟨ainputs, cinputs, rfl⟩ := slW.form hinputs
  have hb0 : ∀ o1 o2 o3 : Obj, Below w.heap.size w (((w.alloc o1).alloc o2).alloc o3) := fun o1 o2 o3 => (((Below.refl _ _).alloc (Nat.le_refl _) _).alloc (by simp) _).alloc (by simp; omega) _
  go_enter Tryd.func43, Tryd.ntmps43
  go_wp2_with fail
  refine (toIntS_any _ x.inputs _ (hinputs.below' ?_) ninputs).mono ?_
  · repeat (refine Below.setCell ?_ (by simp <;> omega) _)
    exact hb0 _ _ _
  rintro e w1 ⟨uinputs, ginputs, rfl, huinputs, hfinputs, hb1⟩
  obtain ⟨ainputs', cinputs', rfl⟩ := slR.form huinputs
  have hz1 : w.heap.size + 2 < w1.heap.size := by have := hb1.size; simp at this; omega
  have hz1a : w.heap.size + 1 < w1.heap.size := by omega
  have hz1b : w.heap.size < w1.heap.size := by omega
  obtain ⟨hc1, hzz1⟩ := bcell hb1
  go_wp2
  refine bodyPost_ret (v := .agg #[.int .i64 x.rel, .slice ainputs' x.inputs.length cinputs', .int .i64 x.limit, .int .i64 x.cost, .int .i64 x.quota]) (by simp [results, Tryd.results43, go_sem, hc1, hzz1, hz1, hz1a, hz1b]) rfl ⟨_, ginputs, rfl, ?_, ?_, ?_⟩
  · repeat (refine ints.far ?_ (hfinputs.notin (by simp <;> omega)) _)
    exact huinputs
  · exact hfinputs.mono (by simp; omega)
  · repeat (refine Below.setCell ?_ (by simp <;> omega) _)
    exact (hb0 _ _ _).trans (hb1.mono (by simp; omega))
set_option maxHeartbeats 800000 in
theorem eqMethod_any (x y : MethD) (vinputs yinputs : Value) (finputs ginputs : List Nat) (w : World) (hinputs : ints w vinputs x.inputs finputs) (kinputs : ints w yinputs y.inputs ginputs) :
    Calls Tryd.prog 45 #[.agg #[.int .i64 x.rel, vinputs, .int .i64 x.limit, .int .i64 x.cost, .int .i64 x.quota], .agg #[.int .i64 y.rel, yinputs, .int .i64 y.limit, .int .i64 y.cost, .int .i64 y.quota]] w fun e w' => e = .returned (.bool (decide (x = y))) ∧ Below w.heap.size w w' := by
  obtain ⟨ainputs, cinputs, rfl⟩ := slR.form hinputs
  obtain ⟨binputs, dinputs, rfl⟩ := slR.form kinputs
  have hb0 : ∀ o1 o2 : Obj, Below w.heap.size w ((w.alloc o1).alloc o2) := fun o1 o2 => ((Below.refl _ _).alloc (Nat.le_refl _) _).alloc (by simp) _
  by_cases erel : x.rel = y.rel
  case neg =>
    have trel : (x.rel != y.rel) = true := by simp [erel]
    have Hfin := Lib.hid (show decide (x = y) = false from decide_eq_false (fun h => erel (by rw [h])))
    clear erel
    go_enter Tryd.func45, Tryd.ntmps45
    go_wp2
    go_ret
    exact ⟨ret_bool (by rw [Hfin.out]), hb0 _ _⟩
  by_cases einputs : x.inputs = y.inputs
  case neg =>
    have trel : (x.rel != y.rel) = false := by simp [erel]
    have tinputs : decide (x.inputs = y.inputs) = false := by simp [einputs]
    have Hfin := Lib.hid (show decide (x = y) = false from decide_eq_false (fun h => einputs (by rw [h])))
    clear erel
    clear einputs
    go_enter Tryd.func45, Tryd.ntmps45
    go_wp2_with fail
    refine (eqIntS_any _ _ _ _ _ _ _ (hinputs.below' (hb0 _ _)) (kinputs.below' (hb0 _ _))).mono ?_
    rintro e w1 ⟨rfl, hb1⟩
    have hB1 := Below.trans (hb0 _ _) (hb1.mono (hb0 _ _).size)
    have hz1 : w.heap.size + 1 < w1.heap.size := by have := hb1.size; simp at this; omega
    obtain ⟨hc1, hzz1⟩ := bcell hb1
    go_wp2
    go_ret
    exact ⟨ret_bool (by rw [Hfin.out]), hB1⟩
  by_cases elimit : x.limit = y.limit
  case neg =>
    have trel : (x.rel != y.rel) = false := by simp [erel]
    have tinputs : decide (x.inputs = y.inputs) = true := by simp [einputs]
    have tlimit : (x.limit != y.limit) = true := by simp [elimit]
    have Hfin := Lib.hid (show decide (x = y) = false from decide_eq_false (fun h => elimit (by rw [h])))
    clear erel
    clear einputs
    clear elimit
    go_enter Tryd.func45, Tryd.ntmps45
    go_wp2_with fail
    refine (eqIntS_any _ _ _ _ _ _ _ (hinputs.below' (hb0 _ _)) (kinputs.below' (hb0 _ _))).mono ?_
    rintro e w1 ⟨rfl, hb1⟩
    have hB1 := Below.trans (hb0 _ _) (hb1.mono (hb0 _ _).size)
    have hz1 : w.heap.size + 1 < w1.heap.size := by have := hb1.size; simp at this; omega
    obtain ⟨hc1, hzz1⟩ := bcell hb1
    go_wp2
    go_ret
    exact ⟨ret_bool (by rw [Hfin.out]), hB1⟩
  by_cases ecost : x.cost = y.cost
  case neg =>
    have trel : (x.rel != y.rel) = false := by simp [erel]
    have tinputs : decide (x.inputs = y.inputs) = true := by simp [einputs]
    have tlimit : (x.limit != y.limit) = false := by simp [elimit]
    have tcost : (x.cost != y.cost) = true := by simp [ecost]
    have Hfin := Lib.hid (show decide (x = y) = false from decide_eq_false (fun h => ecost (by rw [h])))
    clear erel
    clear einputs
    clear elimit
    clear ecost
    go_enter Tryd.func45, Tryd.ntmps45
    go_wp2_with fail
    refine (eqIntS_any _ _ _ _ _ _ _ (hinputs.below' (hb0 _ _)) (kinputs.below' (hb0 _ _))).mono ?_
    rintro e w1 ⟨rfl, hb1⟩
    have hB1 := Below.trans (hb0 _ _) (hb1.mono (hb0 _ _).size)
    have hz1 : w.heap.size + 1 < w1.heap.size := by have := hb1.size; simp at this; omega
    obtain ⟨hc1, hzz1⟩ := bcell hb1
    go_wp2
    go_ret
    exact ⟨ret_bool (by rw [Hfin.out]), hB1⟩
  by_cases equota : x.quota = y.quota
  case neg =>
    have trel : (x.rel != y.rel) = false := by simp [erel]
    have tinputs : decide (x.inputs = y.inputs) = true := by simp [einputs]
    have tlimit : (x.limit != y.limit) = false := by simp [elimit]
    have tcost : (x.cost != y.cost) = false := by simp [ecost]
    have tquota : (x.quota != y.quota) = true := by simp [equota]
    have Hfin := Lib.hid (show decide (x = y) = false from decide_eq_false (fun h => equota (by rw [h])))
    clear erel
    clear einputs
    clear elimit
    clear ecost
    clear equota
    go_enter Tryd.func45, Tryd.ntmps45
    go_wp2_with fail
    refine (eqIntS_any _ _ _ _ _ _ _ (hinputs.below' (hb0 _ _)) (kinputs.below' (hb0 _ _))).mono ?_
    rintro e w1 ⟨rfl, hb1⟩
    have hB1 := Below.trans (hb0 _ _) (hb1.mono (hb0 _ _).size)
    have hz1 : w.heap.size + 1 < w1.heap.size := by have := hb1.size; simp at this; omega
    obtain ⟨hc1, hzz1⟩ := bcell hb1
    go_wp2
    go_ret
    exact ⟨ret_bool (by rw [Hfin.out]), hB1⟩
  have trel : (x.rel != y.rel) = false := by simp [erel]
  have tinputs : decide (x.inputs = y.inputs) = true := by simp [einputs]
  have tlimit : (x.limit != y.limit) = false := by simp [elimit]
  have tcost : (x.cost != y.cost) = false := by simp [ecost]
  have tquota : (x.quota != y.quota) = false := by simp [equota]
  have Hfin := Lib.hid (show decide (x = y) = true from decide_eq_true (by cases x; cases y; simp_all))
  clear erel
  clear einputs
  clear elimit
  clear ecost
  clear equota
  go_enter Tryd.func45, Tryd.ntmps45
  go_wp2_with fail
  refine (eqIntS_any _ _ _ _ _ _ _ (hinputs.below' (hb0 _ _)) (kinputs.below' (hb0 _ _))).mono ?_
  rintro e w1 ⟨rfl, hb1⟩
  have hB1 := Below.trans (hb0 _ _) (hb1.mono (hb0 _ _).size)
  have hz1 : w.heap.size + 1 < w1.heap.size := by have := hb1.size; simp at this; omega
  obtain ⟨hc1, hzz1⟩ := bcell hb1
  go_wp2
  go_ret
  exact ⟨ret_bool (by rw [Hfin.out]), hB1⟩
set_option maxHeartbeats 400000 in
theorem szMethod_any (x : MethD) (vinputs : Value) (b : Int) (w : World) (hinputs : intsV w vinputs x.inputs) (hb : 0 ≤ b ∧ b ≤ 1048576) :
    Calls Tryd.prog 41 #[.agg #[.int .i64 x.rel, vinputs, .int .i64 x.limit, .int .i64 x.cost, .int .i64 x.quota], .int .i64 b] w fun e w' => e = .returned (.int .i64 (left (bulkMethod x) b)) ∧ Below w.heap.size w w' := by
  obtain ⟨ainputs, cinputs, rfl⟩ := slW.form hinputs
  have hb0 : ∀ o1 : Obj, Below w.heap.size w (w.alloc o1) := fun o1 => (Below.refl _ _).alloc (Nat.le_refl _) _
  have hl := left_cases x.inputs.length b hb.1
  rcases hl with ⟨h0, h1⟩ | ⟨h0, h1⟩
  all_goals
    have H1 := Lib.hid h1
    have hlt := left_sign x.inputs.length b
    go_enter Tryd.func41, Tryd.ntmps41
    go_wp2_with fail
    refine (szIntS_any _ x.inputs b _ (hinputs.below' (hb0 _)) hb).mono ?_
    rintro e w1 ⟨rfl, rfl⟩
    go_wp2
    go_ret
    exact ⟨ret_int (by first | rfl | (have := H1.out; unfold bulkMethod; omega)), (hb0 _)⟩
end Go.Proofs.YthpgmhnlblobkaaDoor
