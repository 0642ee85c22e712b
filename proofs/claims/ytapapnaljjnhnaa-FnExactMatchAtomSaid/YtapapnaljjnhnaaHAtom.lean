/- The laws' helpers at Atom and at slices of it: size, copy, comparison, marks, marks held. Conditions: the sizes that the laws themselves ask. -/
import Derived.Test.YtapapnaljjnhnaaHBase
import Derived.StillTailTactics
namespace Go.Proofs.Ytapapnaljjnhnaa
open Go.RowKit
set_option linter.unusedVariables false
set_option linter.unusedSimpArgs false
instance : DecidableEq AtomD := fun a b => decidable_of_iff (a.rel = b.rel ∧ a.terms = b.terms) (by cases a; cases b; simp)
instance : Inhabited AtomD := ⟨⟨0, []⟩⟩
def bulkAtom (x : AtomD) : Nat := x.terms.length
set_option maxHeartbeats 400000 in
theorem toAtom_any (x : AtomD) (vterms : Value) (w : World) (hterms : intsV w vterms x.terms) (nterms : x.terms.length ≤ 1048576) :
    Calls Try.prog 9 #[.agg #[.int .i64 x.rel, vterms]] w fun e w' => ∃ uterms gterms, e = .returned (.agg #[.int .i64 x.rel, uterms]) ∧ ints w' uterms x.terms gterms ∧ Fresh w.heap.size (gterms) ∧ Below w.heap.size w w' := by
  obtain ⟨aterms, cterms, rfl⟩ := slW.form hterms
  have hb0 : ∀ o1 o2 o3 : Obj, Below w.heap.size w (((w.alloc o1).alloc o2).alloc o3) := fun o1 o2 o3 => (((Below.refl _ _).alloc (Nat.le_refl _) _).alloc (by simp) _).alloc (by simp; omega) _
  go_enter Try.func9, Try.ntmps9
  go_wp2_with fail
  refine (toIntS_any _ x.terms _ (hterms.below' ?_) nterms).mono ?_
  · repeat (refine Below.setCell ?_ (by simp <;> omega) _)
    exact hb0 _ _ _
  rintro e w1 ⟨uterms, gterms, rfl, huterms, hfterms, hb1⟩
  obtain ⟨aterms', cterms', rfl⟩ := slR.form huterms
  have hz1 : w.heap.size + 2 < w1.heap.size := by have := hb1.size; simp at this; omega
  have hz1a : w.heap.size + 1 < w1.heap.size := by omega
  have hz1b : w.heap.size < w1.heap.size := by omega
  obtain ⟨hc1, hzz1⟩ := bcell hb1
  go_wp2
  refine bodyPost_ret (v := .agg #[.int .i64 x.rel, .slice aterms' x.terms.length cterms']) (by simp [results, Try.results9, go_sem, hc1, hzz1, hz1, hz1a, hz1b]) rfl ⟨_, gterms, rfl, ?_, ?_, ?_⟩
  · repeat (refine ints.far ?_ (hfterms.notin (by simp <;> omega)) _)
    exact huterms
  · exact hfterms.mono (by simp; omega)
  · repeat (refine Below.setCell ?_ (by simp <;> omega) _)
    exact (hb0 _ _ _).trans (hb1.mono (by simp; omega))
set_option maxHeartbeats 800000 in
theorem eqAtom_any (x y : AtomD) (vterms yterms : Value) (fterms gterms : List Nat) (w : World) (hterms : ints w vterms x.terms fterms) (kterms : ints w yterms y.terms gterms) :
    Calls Try.prog 13 #[.agg #[.int .i64 x.rel, vterms], .agg #[.int .i64 y.rel, yterms]] w fun e w' => e = .returned (.bool (decide (x = y))) ∧ Below w.heap.size w w' := by
  obtain ⟨aterms, cterms, rfl⟩ := slR.form hterms
  obtain ⟨bterms, dterms, rfl⟩ := slR.form kterms
  have hb0 : ∀ o1 o2 : Obj, Below w.heap.size w ((w.alloc o1).alloc o2) := fun o1 o2 => ((Below.refl _ _).alloc (Nat.le_refl _) _).alloc (by simp) _
  by_cases erel : x.rel = y.rel
  case neg =>
    have trel : (x.rel != y.rel) = true := by simp [erel]
    have Hfin := Lib.hid (show decide (x = y) = false from decide_eq_false (fun h => erel (by rw [h])))
    clear erel
    go_enter Try.func13, Try.ntmps13
    go_wp2
    go_ret
    exact ⟨ret_bool (by rw [Hfin.out]), hb0 _ _⟩
  by_cases eterms : x.terms = y.terms
  case neg =>
    have trel : (x.rel != y.rel) = false := by simp [erel]
    have tterms : decide (x.terms = y.terms) = false := by simp [eterms]
    have Hfin := Lib.hid (show decide (x = y) = false from decide_eq_false (fun h => eterms (by rw [h])))
    clear erel
    clear eterms
    go_enter Try.func13, Try.ntmps13
    go_wp2_with fail
    refine (eqIntS_any _ _ _ _ _ _ _ (hterms.below' (hb0 _ _)) (kterms.below' (hb0 _ _))).mono ?_
    rintro e w1 ⟨rfl, hb1⟩
    have hB1 := Below.trans (hb0 _ _) (hb1.mono (hb0 _ _).size)
    have hz1 : w.heap.size + 1 < w1.heap.size := by have := hb1.size; simp at this; omega
    obtain ⟨hc1, hzz1⟩ := bcell hb1
    go_wp2
    go_ret
    exact ⟨ret_bool (by rw [Hfin.out]), hB1⟩
  have trel : (x.rel != y.rel) = false := by simp [erel]
  have tterms : decide (x.terms = y.terms) = true := by simp [eterms]
  have Hfin := Lib.hid (show decide (x = y) = true from decide_eq_true (by cases x; cases y; simp_all))
  clear erel
  clear eterms
  go_enter Try.func13, Try.ntmps13
  go_wp2_with fail
  refine (eqIntS_any _ _ _ _ _ _ _ (hterms.below' (hb0 _ _)) (kterms.below' (hb0 _ _))).mono ?_
  rintro e w1 ⟨rfl, hb1⟩
  have hB1 := Below.trans (hb0 _ _) (hb1.mono (hb0 _ _).size)
  have hz1 : w.heap.size + 1 < w1.heap.size := by have := hb1.size; simp at this; omega
  obtain ⟨hc1, hzz1⟩ := bcell hb1
  go_wp2
  go_ret
  exact ⟨ret_bool (by rw [Hfin.out]), hB1⟩
set_option maxHeartbeats 400000 in
theorem szAtom_any (x : AtomD) (vterms : Value) (b : Int) (w : World) (hterms : intsV w vterms x.terms) (hb : 0 ≤ b ∧ b ≤ 1048576) :
    Calls Try.prog 5 #[.agg #[.int .i64 x.rel, vterms], .int .i64 b] w fun e w' => e = .returned (.int .i64 (left (bulkAtom x) b)) ∧ Below w.heap.size w w' := by
  obtain ⟨aterms, cterms, rfl⟩ := slW.form hterms
  have hb0 : ∀ o1 : Obj, Below w.heap.size w (w.alloc o1) := fun o1 => (Below.refl _ _).alloc (Nat.le_refl _) _
  have hl := left_cases x.terms.length b hb.1
  rcases hl with ⟨h0, h1⟩ | ⟨h0, h1⟩
  all_goals
    have H1 := Lib.hid h1
    have hlt := left_sign x.terms.length b
    go_enter Try.func5, Try.ntmps5
    go_wp2_with fail
    refine (szIntS_any _ x.terms b _ (hterms.below' (hb0 _)) hb).mono ?_
    rintro e w1 ⟨rfl, rfl⟩
    go_wp2
    go_ret
    exact ⟨ret_int (by first | rfl | (have := H1.out; unfold bulkAtom; omega)), (hb0 _)⟩
set_option maxRecDepth 100000 in
set_option maxHeartbeats 400000 in
theorem markAtom_any (x : AtomD) (vterms : Value) (fterms : List Nat) (k0 : Int) (w : World) (hterms : ints w vterms x.terms fterms) (hnd : (fterms).Nodup) (hk0 : 0 ≤ k0) (hk1 : k0 + (x.terms.length : Nat) ≤ 1000000000) :
    Calls Try.prog 16 #[.agg #[.int .i64 x.rel, vterms], .int .i64 k0] w fun e w' => e = .returned (.int .i64 (k0 + (x.terms.length : Nat))) ∧ ints w' vterms (marks (k0) x.terms.length) fterms ∧ Wrote (fterms) w w' := by
  obtain ⟨aterms, cterms, rfl⟩ := slR.form hterms
  have hnoterms : w.heap.size ∉ fterms := fun hx => by have := hterms.lt _ hx; omega
  have hw0 : ∀ (ff : List Nat) (o : Obj), Wrote ff w (w.alloc o) := fun ff o => Wrote.alloc (Wrote.refl ff w) o
  go_enter Try.func16, Try.ntmps16
  go_wp2_with fail
  refine (markIntS_any _ x.terms fterms _ _ (hterms.below' ((Below.refl _ _).alloc (Nat.le_refl _) _)) ⟨by omega, by omega⟩ (by omega)).mono ?_
  rintro e w1 ⟨rfl, hmterms, hw1⟩
  have hc1 := fun o => hw1.cellAt (b := w.heap.size) (o := o) (by simp) hnoterms
  go_wp2
  go_ret
  exact ⟨rfl, hmterms, (hw0 _ _).trans (hw1.mono (by simp))⟩
end Go.Proofs.Ytapapnaljjnhnaa
