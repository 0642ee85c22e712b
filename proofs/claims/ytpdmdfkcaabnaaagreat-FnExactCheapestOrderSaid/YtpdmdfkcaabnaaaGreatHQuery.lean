/- The laws' helpers at Query and at slices of it: size, copy, comparison, marks, marks held. Conditions: the sizes that the laws themselves ask. -/
import Derived.Test.YtpdmdfkcaabnaaaGreatHBase
import Derived.StillTailTactics
import Derived.Test.YtpdmdfkcaabnaaaGreatHAtom
namespace Go.Proofs.YtpdmdfkcaabnaaaGreat
open Go.RowKit
set_option linter.unusedVariables false
set_option linter.unusedSimpArgs false
instance : DecidableEq QueryD := fun a b => decidable_of_iff (a.head = b.head ∧ a.atoms = b.atoms) (by cases a; cases b; simp)
instance : Inhabited QueryD := ⟨⟨[], []⟩⟩
def bulkQuery (x : QueryD) : Nat := x.head.length + bulkAtomS x.atoms
set_option maxHeartbeats 400000 in
theorem toQuery_any (x : QueryD) (vhead vatoms : Value) (w : World) (hhead : intsV w vhead x.head) (nhead : x.head.length ≤ 1048576) (hatoms : atomsV w vatoms x.atoms) (natoms : x.atoms.length ≤ 1048576) (natomsi : ∀ y ∈ x.atoms, y.terms.length ≤ 1048576) :
    Calls Tryz.prog 9 #[.agg #[vhead, vatoms]] w fun e w' => ∃ uhead uatoms ghead gatoms, e = .returned (.agg #[uhead, uatoms]) ∧ ints w' uhead x.head ghead ∧ atoms w' uatoms x.atoms gatoms ∧ Fresh w.heap.size (ghead ++ gatoms) ∧ Below w.heap.size w w' := by
  obtain ⟨ahead, chead, rfl⟩ := slW.form hhead
  obtain ⟨aatoms, catoms, rfl⟩ := slW.form hatoms
  have hb0 : ∀ o1 o2 o3 : Obj, Below w.heap.size w (((w.alloc o1).alloc o2).alloc o3) := fun o1 o2 o3 => (((Below.refl _ _).alloc (Nat.le_refl _) _).alloc (by simp) _).alloc (by simp; omega) _
  go_enter Tryz.func9, Tryz.ntmps9
  go_wp2_with fail
  refine (toIntS_any _ x.head _ (hhead.below' ?_) nhead).mono ?_
  · repeat (refine Below.setCell ?_ (by simp <;> omega) _)
    exact hb0 _ _ _
  rintro e w1 ⟨uhead, ghead, rfl, huhead, hfhead, hb1⟩
  obtain ⟨ahead', chead', rfl⟩ := slR.form huhead
  have hz1 : w.heap.size + 2 < w1.heap.size := by have := hb1.size; simp at this; omega
  have hz1a : w.heap.size + 1 < w1.heap.size := by omega
  have hz1b : w.heap.size < w1.heap.size := by omega
  obtain ⟨hc1, hzz1⟩ := bcell hb1
  go_wp2_with fail
  refine (toAtomS_any _ x.atoms _ (hatoms.below' ?_) natoms natomsi).mono ?_
  · repeat (refine Below.setCell ?_ (by simp <;> omega) _)
    exact (hb0 _ _ _).trans (hb1.mono (by simp; omega))
  rintro e w2 ⟨uatoms, gatoms, rfl, huatoms, hfatoms, hb2⟩
  obtain ⟨aatoms', catoms', rfl⟩ := slR.form huatoms
  have hz2 : w.heap.size + 2 < w2.heap.size := by have := hb2.size; simp at this; omega
  have hz2a : w.heap.size + 1 < w2.heap.size := by omega
  have hz2b : w.heap.size < w2.heap.size := by omega
  obtain ⟨hc2, hzz2⟩ := bcell hb2
  have huhead' : ints w2 (.slice ahead' x.head.length chead') x.head ghead := by
    refine ints.below' ?_ hb2
    repeat (refine ints.far ?_ (hfhead.notin (by simp <;> omega)) _)
    exact huhead
  have hbig : ∀ g ∈ ghead, g < w1.heap.size := huhead.lt
  have hfin : Fresh w.heap.size (ghead ++ gatoms) := (hfhead.mono (by simp; omega)).append hfatoms (by simp; omega) (fun g hg => by have := hbig g hg; simpa using this)
  clear hbig huhead
  go_wp2
  refine bodyPost_ret (v := .agg #[.slice ahead' x.head.length chead', .slice aatoms' x.atoms.length catoms']) (by simp [results, Tryz.results9, go_sem, hc1, hzz1, hz1, hz1a, hz1b, hc2, hzz2, hz2, hz2a, hz2b]) rfl ⟨_, _, ghead, gatoms, rfl, ?_, ?_, ?_, ?_⟩
  · repeat (refine ints.far ?_ (hfhead.notin (by simp <;> omega)) _)
    exact huhead'
  · repeat (refine atoms.far ?_ (hfatoms.notin (by simp <;> omega)) _)
    exact huatoms
  · exact hfin
  · repeat (refine Below.setCell ?_ (by simp <;> omega) _)
    refine Below.trans ?_ (hb2.mono (by simp; omega))
    repeat (refine Below.setCell ?_ (by simp <;> omega) _)
    exact (hb0 _ _ _).trans (hb1.mono (by simp; omega))
set_option maxHeartbeats 800000 in
theorem eqQuery_any (x y : QueryD) (vhead yhead vatoms yatoms : Value) (fhead ghead fatoms gatoms : List Nat) (w : World) (hhead : ints w vhead x.head fhead) (khead : ints w yhead y.head ghead) (hatoms : atoms w vatoms x.atoms fatoms) (katoms : atoms w yatoms y.atoms gatoms) :
    Calls Tryz.prog 14 #[.agg #[vhead, vatoms], .agg #[yhead, yatoms]] w fun e w' => e = .returned (.bool (decide (x = y))) ∧ Below w.heap.size w w' := by
  obtain ⟨ahead, chead, rfl⟩ := slR.form hhead
  obtain ⟨bhead, dhead, rfl⟩ := slR.form khead
  obtain ⟨aatoms, catoms, rfl⟩ := slR.form hatoms
  obtain ⟨batoms, datoms, rfl⟩ := slR.form katoms
  have hb0 : ∀ o1 o2 : Obj, Below w.heap.size w ((w.alloc o1).alloc o2) := fun o1 o2 => ((Below.refl _ _).alloc (Nat.le_refl _) _).alloc (by simp) _
  by_cases ehead : x.head = y.head
  case neg =>
    have thead : decide (x.head = y.head) = false := by simp [ehead]
    have Hfin := Lib.hid (show decide (x = y) = false from decide_eq_false (fun h => ehead (by rw [h])))
    clear ehead
    go_enter Tryz.func14, Tryz.ntmps14
    go_wp2_with fail
    refine (eqIntS_any _ _ _ _ _ _ _ (hhead.below' (hb0 _ _)) (khead.below' (hb0 _ _))).mono ?_
    rintro e w1 ⟨rfl, hb1⟩
    have hB1 := Below.trans (hb0 _ _) (hb1.mono (hb0 _ _).size)
    have hz1 : w.heap.size + 1 < w1.heap.size := by have := hb1.size; simp at this; omega
    obtain ⟨hc1, hzz1⟩ := bcell hb1
    go_wp2
    go_ret
    exact ⟨ret_bool (by rw [Hfin.out]), hB1⟩
  by_cases eatoms : x.atoms = y.atoms
  case neg =>
    have thead : decide (x.head = y.head) = true := by simp [ehead]
    have tatoms : decide (x.atoms = y.atoms) = false := by simp [eatoms]
    have Hfin := Lib.hid (show decide (x = y) = false from decide_eq_false (fun h => eatoms (by rw [h])))
    clear ehead
    clear eatoms
    go_enter Tryz.func14, Tryz.ntmps14
    go_wp2_with fail
    refine (eqIntS_any _ _ _ _ _ _ _ (hhead.below' (hb0 _ _)) (khead.below' (hb0 _ _))).mono ?_
    rintro e w1 ⟨rfl, hb1⟩
    have hB1 := Below.trans (hb0 _ _) (hb1.mono (hb0 _ _).size)
    have hz1 : w.heap.size + 1 < w1.heap.size := by have := hb1.size; simp at this; omega
    obtain ⟨hc1, hzz1⟩ := bcell hb1
    go_wp2_with fail
    refine (eqAtomS_any _ _ _ _ _ _ _ (hatoms.below' hB1) (katoms.below' hB1)).mono ?_
    rintro e w2 ⟨rfl, hb2⟩
    have hB2 := hB1.trans (hb2.mono hB1.size)
    have hz2 : w.heap.size + 1 < w2.heap.size := by have := hb2.size; omega
    obtain ⟨hc2, hzz2⟩ := bcell hb2
    go_wp2
    go_ret
    exact ⟨ret_bool (by rw [Hfin.out]), hB2⟩
  have thead : decide (x.head = y.head) = true := by simp [ehead]
  have tatoms : decide (x.atoms = y.atoms) = true := by simp [eatoms]
  have Hfin := Lib.hid (show decide (x = y) = true from decide_eq_true (by cases x; cases y; simp_all))
  clear ehead
  clear eatoms
  go_enter Tryz.func14, Tryz.ntmps14
  go_wp2_with fail
  refine (eqIntS_any _ _ _ _ _ _ _ (hhead.below' (hb0 _ _)) (khead.below' (hb0 _ _))).mono ?_
  rintro e w1 ⟨rfl, hb1⟩
  have hB1 := Below.trans (hb0 _ _) (hb1.mono (hb0 _ _).size)
  have hz1 : w.heap.size + 1 < w1.heap.size := by have := hb1.size; simp at this; omega
  obtain ⟨hc1, hzz1⟩ := bcell hb1
  go_wp2_with fail
  refine (eqAtomS_any _ _ _ _ _ _ _ (hatoms.below' hB1) (katoms.below' hB1)).mono ?_
  rintro e w2 ⟨rfl, hb2⟩
  have hB2 := hB1.trans (hb2.mono hB1.size)
  have hz2 : w.heap.size + 1 < w2.heap.size := by have := hb2.size; omega
  obtain ⟨hc2, hzz2⟩ := bcell hb2
  go_wp2
  go_ret
  exact ⟨ret_bool (by rw [Hfin.out]), hB2⟩
set_option maxHeartbeats 400000 in
theorem szQuery_any (x : QueryD) (vhead vatoms : Value) (b : Int) (w : World) (hhead : intsV w vhead x.head) (hatoms : atomsV w vatoms x.atoms) (hb : 0 ≤ b ∧ b ≤ 1048576) :
    Calls Tryz.prog 5 #[.agg #[vhead, vatoms], .int .i64 b] w fun e w' => e = .returned (.int .i64 (left (bulkQuery x) b)) ∧ Below w.heap.size w w' := by
  obtain ⟨ahead, chead, rfl⟩ := slW.form hhead
  obtain ⟨aatoms, catoms, rfl⟩ := slW.form hatoms
  have hb0 : ∀ o1 : Obj, Below w.heap.size w (w.alloc o1) := fun o1 => (Below.refl _ _).alloc (Nat.le_refl _) _
  rcases left_cases x.head.length b hb.1 with ⟨h0, h1⟩ | ⟨h0, h1⟩
  · have Hfin := Lib.hid (show left (bulkQuery x) b = -1 from left_over _ _ b (by omega) h1)
    go_enter Tryz.func5, Tryz.ntmps5
    go_wp2_with fail
    refine (szIntS_any _ x.head b _ (hhead.below' (hb0 _)) hb).mono ?_
    rintro e w1 ⟨rfl, rfl⟩
    go_wp2
    go_ret
    exact ⟨ret_int (by rw [Hfin.out]), (hb0 _)⟩
  · have hb' : 0 ≤ left x.head.length b ∧ left x.head.length b ≤ 1048576 := by have := left_le x.head.length b hb.1; omega
    have Hadd := Lib.hid (show left (bulkQuery x) b = left (bulkAtomS x.atoms) (left x.head.length b) from left_add _ _ b h0)
    have hs := left_sign (bulkAtomS x.atoms) (left x.head.length b)
    rcases left_cases (bulkAtomS x.atoms) (left x.head.length b) hb'.1 with ⟨h2, h3⟩ | ⟨h2, h3⟩
    all_goals
      have H3 := Lib.hid h3; clear h3 h1
      go_enter Tryz.func5, Tryz.ntmps5
      go_wp2_with fail
      refine (szIntS_any _ x.head b _ (hhead.below' (hb0 _)) hb).mono ?_
      rintro e w1 ⟨rfl, rfl⟩
      go_wp2_with fail
      refine (szAtomS_any _ x.atoms _ _ (hatoms.below' (hb0 _)) hb').mono ?_
      rintro e w2 ⟨rfl, hb2⟩
      have hB2 := Below.trans (hb0 _) (hb2.mono (Below.size (hb0 _)))
      have hz2 : w.heap.size < w2.heap.size := by have := hb2.size; simp at this; omega
      obtain ⟨hc2, hzz2⟩ := bcell hb2
      go_wp2
      go_ret
      exact ⟨ret_int (by have h4 := Hadd.out; have h5 := H3.out; first | (rw [h4]; done) | (rw [h4]; omega)), hB2⟩
set_option maxRecDepth 100000 in
set_option maxHeartbeats 400000 in
theorem markQuery_any (x : QueryD) (vhead vatoms : Value) (fhead fatoms : List Nat) (k0 : Int) (w : World) (hhead : ints w vhead x.head fhead) (hatoms : atoms w vatoms x.atoms fatoms) (hnd : (fhead ++ fatoms).Nodup) (hk0 : 0 ≤ k0) (hk1 : k0 + (x.head.length + (x.atoms.map cntAtom).sum : Nat) ≤ 1000000000) :
    Calls Tryz.prog 17 #[.agg #[vhead, vatoms], .int .i64 k0] w fun e w' => e = .returned (.int .i64 (k0 + (x.head.length : Nat) + ((x.atoms.map cntAtom).sum : Nat))) ∧ ints w' vhead (marks (k0) x.head.length) fhead ∧ atoms w' vatoms (markL markAtomD cntAtom (k0 + (x.head.length : Nat)) x.atoms) fatoms ∧ Wrote (fhead ++ fatoms) w w' := by
  obtain ⟨ahead, chead, rfl⟩ := slR.form hhead
  obtain ⟨aatoms, catoms, rfl⟩ := slR.form hatoms
  have hnohead : w.heap.size ∉ fhead := fun hx => by have := hhead.lt _ hx; omega
  have hnoatoms : w.heap.size ∉ fatoms := fun hx => by have := hatoms.lt _ hx; omega
  have hw0 : ∀ (ff : List Nat) (o : Obj), Wrote ff w (w.alloc o) := fun ff o => Wrote.alloc (Wrote.refl ff w) o
  have hap := List.nodup_append.1 hnd
  have hdis : ∀ g ∈ fatoms, g ∉ fhead := fun g h1 h2 => hap.2.2 g h2 g h1 rfl
  have hdis' : ∀ g ∈ fhead, g ∉ fatoms := fun g h1 h2 => hap.2.2 g h1 g h2 rfl
  go_enter Tryz.func17, Tryz.ntmps17
  go_wp2_with fail
  refine (markIntS_any _ x.head fhead _ _ (hhead.below' ((Below.refl _ _).alloc (Nat.le_refl _) _)) ⟨by omega, by omega⟩ (by omega)).mono ?_
  rintro e w1 ⟨rfl, hmhead, hw1⟩
  have hc1 := fun o => hw1.cellAt (b := w.heap.size) (o := o) (by simp) hnohead
  have hqatoms : atoms w1 (.slice aatoms x.atoms.length catoms) x.atoms fatoms := by
    refine atoms.frame (hatoms.below' ((Below.refl _ _).alloc (Nat.le_refl _) (.cells #[.slice ahead x.head.length chead, .slice aatoms x.atoms.length catoms] 37))) fun g hg => hw1.block g ?_ (hdis g hg)
    have := hatoms.lt g hg; simp; omega
  go_wp2_with fail
  refine (markAtomS_any _ x.atoms fatoms _ _ hqatoms hap.2.1 (by omega) (by omega)).mono ?_
  rintro e w2 ⟨rfl, hmatoms, hw2⟩
  have hc2 := fun o => hw2.cellAt (b := w.heap.size) (o := o) (by have := hw1.size; simp at this; omega) hnoatoms
  go_wp2
  go_ret
  exact ⟨rfl, ints.frame hmhead fun g hg => hw2.block g (hmhead.lt g hg) (hdis' g hg), hmatoms, ((hw0 _ _).trans (hw1.mono (fun g hg => by simp [hg]))).trans (hw2.mono (fun g hg => by simp [hg]))⟩
end Go.Proofs.YtpdmdfkcaabnaaaGreat
