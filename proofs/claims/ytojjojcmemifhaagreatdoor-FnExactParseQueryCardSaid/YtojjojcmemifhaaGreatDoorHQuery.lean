/- The laws' helpers at Query and at slices of it: size, copy, comparison, marks, marks held. Conditions: the sizes that the laws themselves ask. -/
import Derived.Test.YtojjojcmemifhaaGreatDoorMA
import Derived.StillTailTactics
import Derived.Test.YtojjojcmemifhaaGreatDoorMC
namespace Go.Proofs.YtojjojcmemifhaaGreatDoor
open Go.RowKit
set_option linter.unusedVariables false
set_option linter.unusedSimpArgs false
instance : DecidableEq QueryD := fun a b => decidable_of_iff (a.head = b.head ∧ a.atoms = b.atoms) (by cases a; cases b; simp)
instance : Inhabited QueryD := ⟨⟨[], []⟩⟩
def bulkQuery (x : QueryD) : Nat := x.head.length + bulkAtomS x.atoms
set_option maxHeartbeats 800000 in
theorem eqQuery_any (x y : QueryD) (vhead yhead vatoms yatoms : Value) (fhead ghead fatoms gatoms : List Nat) (w : World) (hhead : ints w vhead x.head fhead) (khead : ints w yhead y.head ghead) (hatoms : atoms w vatoms x.atoms fatoms) (katoms : atoms w yatoms y.atoms gatoms) :
    Calls Tryz.prog 40 #[.agg #[vhead, vatoms], .agg #[yhead, yatoms]] w fun e w' => e = .returned (.bool (decide (x = y))) ∧ Below w.heap.size w w' := by
  obtain ⟨ahead, chead, rfl⟩ := slR.form hhead
  obtain ⟨bhead, dhead, rfl⟩ := slR.form khead
  obtain ⟨aatoms, catoms, rfl⟩ := slR.form hatoms
  obtain ⟨batoms, datoms, rfl⟩ := slR.form katoms
  have hb0 : ∀ o1 o2 : Obj, Below w.heap.size w ((w.alloc o1).alloc o2) := fun o1 o2 => ((Below.refl _ _).alloc (Nat.le_refl _) _).alloc (by simp) _
  by_cases ehead : x.head = y.head
  case neg =>
    have thead : decide (x.head = y.head) = false := by simp [ehead]
    have Hfin := Lib.hid (show decide (x = y) = false from decide_eq_false (fun h => ehead (by rw [h])))
    clear ehead
    go_enter Tryz.func40, Tryz.ntmps40
    go_wp2_with fail
    refine (eqIntS_any _ _ _ _ _ _ _ (hhead.below' (hb0 _ _)) (khead.below' (hb0 _ _))).mono ?_
    rintro e w1 ⟨rfl, hb1⟩
    have hB1 := Below.trans (hb0 _ _) (hb1.mono (hb0 _ _).size)
    have hz1 : w.heap.size + 1 < w1.heap.size := by have := hb1.size; simp at this; omega
    obtain ⟨hc1, hzz1⟩ := bcell hb1
    go_wp2
    go_ret
    exact ⟨ret_bool (by rw [Hfin.out]), hB1⟩
  by_cases eatoms : x.atoms = y.atoms
  case neg =>
    have thead : decide (x.head = y.head) = true := by simp [ehead]
    have tatoms : decide (x.atoms = y.atoms) = false := by simp [eatoms]
    have Hfin := Lib.hid (show decide (x = y) = false from decide_eq_false (fun h => eatoms (by rw [h])))
    clear ehead
    clear eatoms
    go_enter Tryz.func40, Tryz.ntmps40
    go_wp2_with fail
    refine (eqIntS_any _ _ _ _ _ _ _ (hhead.below' (hb0 _ _)) (khead.below' (hb0 _ _))).mono ?_
    rintro e w1 ⟨rfl, hb1⟩
    have hB1 := Below.trans (hb0 _ _) (hb1.mono (hb0 _ _).size)
    have hz1 : w.heap.size + 1 < w1.heap.size := by have := hb1.size; simp at this; omega
    obtain ⟨hc1, hzz1⟩ := bcell hb1
    go_wp2_with fail
    refine (eqAtomS_any _ _ _ _ _ _ _ (hatoms.below' hB1) (katoms.below' hB1)).mono ?_
    rintro e w2 ⟨rfl, hb2⟩
    have hB2 := hB1.trans (hb2.mono hB1.size)
    have hz2 : w.heap.size + 1 < w2.heap.size := by have := hb2.size; omega
    obtain ⟨hc2, hzz2⟩ := bcell hb2
    go_wp2
    go_ret
    exact ⟨ret_bool (by rw [Hfin.out]), hB2⟩
  have thead : decide (x.head = y.head) = true := by simp [ehead]
  have tatoms : decide (x.atoms = y.atoms) = true := by simp [eatoms]
  have Hfin := Lib.hid (show decide (x = y) = true from decide_eq_true (by cases x; cases y; simp_all))
  clear ehead
  clear eatoms
  go_enter Tryz.func40, Tryz.ntmps40
  go_wp2_with fail
  refine (eqIntS_any _ _ _ _ _ _ _ (hhead.below' (hb0 _ _)) (khead.below' (hb0 _ _))).mono ?_
  rintro e w1 ⟨rfl, hb1⟩
  have hB1 := Below.trans (hb0 _ _) (hb1.mono (hb0 _ _).size)
  have hz1 : w.heap.size + 1 < w1.heap.size := by have := hb1.size; simp at this; omega
  obtain ⟨hc1, hzz1⟩ := bcell hb1
  go_wp2_with fail
  refine (eqAtomS_any _ _ _ _ _ _ _ (hatoms.below' hB1) (katoms.below' hB1)).mono ?_
  rintro e w2 ⟨rfl, hb2⟩
  have hB2 := hB1.trans (hb2.mono hB1.size)
  have hz2 : w.heap.size + 1 < w2.heap.size := by have := hb2.size; omega
  obtain ⟨hc2, hzz2⟩ := bcell hb2
  go_wp2
  go_ret
  exact ⟨ret_bool (by rw [Hfin.out]), hB2⟩
set_option maxRecDepth 100000 in
set_option maxHeartbeats 400000 in
theorem markQuery_any (x : QueryD) (vhead vatoms : Value) (fhead fatoms : List Nat) (k0 : Int) (w : World) (hhead : ints w vhead x.head fhead) (hatoms : atoms w vatoms x.atoms fatoms) (hnd : (fhead ++ fatoms).Nodup) (hk0 : 0 ≤ k0) (hk1 : k0 + (x.head.length + (x.atoms.map cntAtom).sum : Nat) ≤ 1000000000) :
    Calls Tryz.prog 43 #[.agg #[vhead, vatoms], .int .i64 k0] w fun e w' => e = .returned (.int .i64 (k0 + (x.head.length : Nat) + ((x.atoms.map cntAtom).sum : Nat))) ∧ ints w' vhead (marks (k0) x.head.length) fhead ∧ atoms w' vatoms (markL markAtomD cntAtom (k0 + (x.head.length : Nat)) x.atoms) fatoms ∧ Wrote (fhead ++ fatoms) w w' := by
  obtain ⟨ahead, chead, rfl⟩ := slR.form hhead
  obtain ⟨aatoms, catoms, rfl⟩ := slR.form hatoms
  have hnohead : w.heap.size ∉ fhead := fun hx => by have := hhead.lt _ hx; omega
  have hnoatoms : w.heap.size ∉ fatoms := fun hx => by have := hatoms.lt _ hx; omega
  have hw0 : ∀ (ff : List Nat) (o : Obj), Wrote ff w (w.alloc o) := fun ff o => Wrote.alloc (Wrote.refl ff w) o
  have hap := List.nodup_append.1 hnd
  have hdis : ∀ g ∈ fatoms, g ∉ fhead := fun g h1 h2 => hap.2.2 g h2 g h1 rfl
  have hdis' : ∀ g ∈ fhead, g ∉ fatoms := fun g h1 h2 => hap.2.2 g h1 g h2 rfl
  go_enter Tryz.func43, Tryz.ntmps43
  go_wp2_with fail
  refine (markIntS_any _ x.head fhead _ _ (hhead.below' ((Below.refl _ _).alloc (Nat.le_refl _) _)) ⟨by omega, by omega⟩ (by omega)).mono ?_
  rintro e w1 ⟨rfl, hmhead, hw1⟩
  have hc1 := fun o => hw1.cellAt (b := w.heap.size) (o := o) (by simp) hnohead
  have hqatoms : atoms w1 (.slice aatoms x.atoms.length catoms) x.atoms fatoms := by
    refine atoms.frame (hatoms.below' ((Below.refl _ _).alloc (Nat.le_refl _) (.cells #[.slice ahead x.head.length chead, .slice aatoms x.atoms.length catoms] 58))) fun g hg => hw1.block g ?_ (hdis g hg)
    have := hatoms.lt g hg; simp; omega
  go_wp2_with fail
  refine (markAtomS_any _ x.atoms fatoms _ _ hqatoms hap.2.1 (by omega) (by omega)).mono ?_
  rintro e w2 ⟨rfl, hmatoms, hw2⟩
  have hc2 := fun o => hw2.cellAt (b := w.heap.size) (o := o) (by have := hw1.size; simp at this; omega) hnoatoms
  go_wp2
  go_ret
  exact ⟨rfl, ints.frame hmhead fun g hg => hw2.block g (hmhead.lt g hg) (hdis' g hg), hmatoms, ((hw0 _ _).trans (hw1.mono (fun g hg => by simp [hg]))).trans (hw2.mono (fun g hg => by simp [hg]))⟩
set_option maxRecDepth 100000 in
set_option maxHeartbeats 400000 in
theorem heldQuery_any (x : QueryD) (vhead vatoms : Value) (fhead fatoms : List Nat) (k0 : Int) (w : World) (hhead : ints w vhead (marks (k0) x.head.length) fhead) (hatoms : atoms w vatoms (markL markAtomD cntAtom (k0 + (x.head.length : Nat)) x.atoms) fatoms) (hk0 : 0 ≤ k0) (hk1 : k0 + (x.head.length + (x.atoms.map cntAtom).sum : Nat) ≤ 1000000000) :
    Calls Tryz.prog 44 #[.agg #[vhead, vatoms], .int .i64 k0] w fun e w' => e = .returned (.int .i64 (k0 + (x.head.length : Nat) + ((x.atoms.map cntAtom).sum : Nat))) ∧ Below w.heap.size w w' := by
  have hb0 : ∀ o1 : Obj, Below w.heap.size w (w.alloc o1) := fun o1 => (Below.refl _ _).alloc (Nat.le_refl _) _
  obtain ⟨ahead, chead, hvhead⟩ := slR.form hhead
  rw [marks_length] at hvhead
  subst hvhead
  obtain ⟨aatoms, catoms, hvatoms⟩ := slR.form hatoms
  rw [markL_length] at hvatoms
  subst hvatoms
  go_enter Tryz.func44, Tryz.ntmps44
  go_wp2_with fail
  refine (heldIntS_any _ x.head.length fhead _ _ (hhead.below' (hb0 _)) ⟨by omega, by omega⟩ (by omega)).mono ?_
  rintro e w1 ⟨rfl, hb1⟩
  have hB1 := Below.trans (hb0 _) (hb1.mono (Below.size (hb0 _)))
  have hz1 : w.heap.size < w1.heap.size := by have := hb1.size; simp at this; omega
  obtain ⟨hc1, hzz1⟩ := bcell hb1
  go_wp2_with fail
  refine (heldAtomS_any _ x.atoms fatoms _ _ (hatoms.below' hB1) (by omega) (by omega)).mono ?_
  rintro e w2 ⟨rfl, hb2⟩
  have hB2 := Below.trans hB1 (hb2.mono (Below.size hB1))
  have hz2 : w.heap.size < w2.heap.size := by have := hb2.size; omega
  obtain ⟨hc2, hzz2⟩ := bcell hb2
  go_wp2
  go_ret
  exact ⟨rfl, hB2⟩
end Go.Proofs.YtojjojcmemifhaaGreatDoor
