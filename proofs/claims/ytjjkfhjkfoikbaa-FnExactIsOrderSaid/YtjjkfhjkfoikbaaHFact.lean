/- The laws' helpers at Fact and at slices of it: size, copy, comparison, marks, marks held. Conditions: the sizes that the laws themselves ask. -/
import Derived.Test.YtjjkfhjkfoikbaaHBase
import Derived.StillTailTactics
namespace Go.Proofs.Ytjjkfhjkfoikbaa
open Go.RowKit
set_option linter.unusedVariables false
set_option linter.unusedSimpArgs false
instance : DecidableEq FactD := fun a b => decidable_of_iff (a.rel = b.rel ∧ a.vals = b.vals) (by cases a; cases b; simp)
instance : Inhabited FactD := ⟨⟨0, []⟩⟩
def bulkFact (x : FactD) : Nat := x.vals.length
set_option maxHeartbeats 400000 in
theorem toFact_any (x : FactD) (vvals : Value) (w : World) (hvals : intsV w vvals x.vals) (nvals : x.vals.length ≤ 1048576) :
    Calls Try.prog 17 #[.agg #[.int .i64 x.rel, vvals]] w fun e w' => ∃ uvals gvals, e = .returned (.agg #[.int .i64 x.rel, uvals]) ∧ ints w' uvals x.vals gvals ∧ Fresh w.heap.size (gvals) ∧ Below w.heap.size w w' := by
  obtain ⟨avals, cvals, rfl⟩ := slW.form hvals
  have hb0 : ∀ o1 o2 o3 : Obj, Below w.heap.size w (((w.alloc o1).alloc o2).alloc o3) := fun o1 o2 o3 => (((Below.refl _ _).alloc (Nat.le_refl _) _).alloc (by simp) _).alloc (by simp; omega) _
  go_enter Try.func17, Try.ntmps17
  go_wp2_with fail
  refine (toIntS_any _ x.vals _ (hvals.below' ?_) nvals).mono ?_
  · repeat (refine Below.setCell ?_ (by simp <;> omega) _)
    exact hb0 _ _ _
  rintro e w1 ⟨uvals, gvals, rfl, huvals, hfvals, hb1⟩
  obtain ⟨avals', cvals', rfl⟩ := slR.form huvals
  have hz1 : w.heap.size + 2 < w1.heap.size := by have := hb1.size; simp at this; omega
  have hz1a : w.heap.size + 1 < w1.heap.size := by omega
  have hz1b : w.heap.size < w1.heap.size := by omega
  obtain ⟨hc1, hzz1⟩ := bcell hb1
  go_wp2
  refine bodyPost_ret (v := .agg #[.int .i64 x.rel, .slice avals' x.vals.length cvals']) (by simp [results, Try.results17, go_sem, hc1, hzz1, hz1, hz1a, hz1b]) rfl ⟨_, gvals, rfl, ?_, ?_, ?_⟩
  · repeat (refine ints.far ?_ (hfvals.notin (by simp <;> omega)) _)
    exact huvals
  · exact hfvals.mono (by simp; omega)
  · repeat (refine Below.setCell ?_ (by simp <;> omega) _)
    exact (hb0 _ _ _).trans (hb1.mono (by simp; omega))
set_option maxHeartbeats 800000 in
theorem eqFact_any (x y : FactD) (vvals yvals : Value) (fvals gvals : List Nat) (w : World) (hvals : ints w vvals x.vals fvals) (kvals : ints w yvals y.vals gvals) :
    Calls Try.prog 21 #[.agg #[.int .i64 x.rel, vvals], .agg #[.int .i64 y.rel, yvals]] w fun e w' => e = .returned (.bool (decide (x = y))) ∧ Below w.heap.size w w' := by
  obtain ⟨avals, cvals, rfl⟩ := slR.form hvals
  obtain ⟨bvals, dvals, rfl⟩ := slR.form kvals
  have hb0 : ∀ o1 o2 : Obj, Below w.heap.size w ((w.alloc o1).alloc o2) := fun o1 o2 => ((Below.refl _ _).alloc (Nat.le_refl _) _).alloc (by simp) _
  by_cases erel : x.rel = y.rel
  case neg =>
    have trel : (x.rel != y.rel) = true := by simp [erel]
    have Hfin := Lib.hid (show decide (x = y) = false from decide_eq_false (fun h => erel (by rw [h])))
    clear erel
    go_enter Try.func21, Try.ntmps21
    go_wp2
    go_ret
    exact ⟨ret_bool (by rw [Hfin.out]), hb0 _ _⟩
  by_cases evals : x.vals = y.vals
  case neg =>
    have trel : (x.rel != y.rel) = false := by simp [erel]
    have tvals : decide (x.vals = y.vals) = false := by simp [evals]
    have Hfin := Lib.hid (show decide (x = y) = false from decide_eq_false (fun h => evals (by rw [h])))
    clear erel
    clear evals
    go_enter Try.func21, Try.ntmps21
    go_wp2_with fail
    refine (eqIntS_any _ _ _ _ _ _ _ (hvals.below' (hb0 _ _)) (kvals.below' (hb0 _ _))).mono ?_
    rintro e w1 ⟨rfl, hb1⟩
    have hB1 := Below.trans (hb0 _ _) (hb1.mono (hb0 _ _).size)
    have hz1 : w.heap.size + 1 < w1.heap.size := by have := hb1.size; simp at this; omega
    obtain ⟨hc1, hzz1⟩ := bcell hb1
    go_wp2
    go_ret
    exact ⟨ret_bool (by rw [Hfin.out]), hB1⟩
  have trel : (x.rel != y.rel) = false := by simp [erel]
  have tvals : decide (x.vals = y.vals) = true := by simp [evals]
  have Hfin := Lib.hid (show decide (x = y) = true from decide_eq_true (by cases x; cases y; simp_all))
  clear erel
  clear evals
  go_enter Try.func21, Try.ntmps21
  go_wp2_with fail
  refine (eqIntS_any _ _ _ _ _ _ _ (hvals.below' (hb0 _ _)) (kvals.below' (hb0 _ _))).mono ?_
  rintro e w1 ⟨rfl, hb1⟩
  have hB1 := Below.trans (hb0 _ _) (hb1.mono (hb0 _ _).size)
  have hz1 : w.heap.size + 1 < w1.heap.size := by have := hb1.size; simp at this; omega
  obtain ⟨hc1, hzz1⟩ := bcell hb1
  go_wp2
  go_ret
  exact ⟨ret_bool (by rw [Hfin.out]), hB1⟩
set_option maxHeartbeats 400000 in
theorem szFact_any (x : FactD) (vvals : Value) (b : Int) (w : World) (hvals : intsV w vvals x.vals) (hb : 0 ≤ b ∧ b ≤ 1048576) :
    Calls Try.prog 13 #[.agg #[.int .i64 x.rel, vvals], .int .i64 b] w fun e w' => e = .returned (.int .i64 (left (bulkFact x) b)) ∧ Below w.heap.size w w' := by
  obtain ⟨avals, cvals, rfl⟩ := slW.form hvals
  have hb0 : ∀ o1 : Obj, Below w.heap.size w (w.alloc o1) := fun o1 => (Below.refl _ _).alloc (Nat.le_refl _) _
  have hl := left_cases x.vals.length b hb.1
  rcases hl with ⟨h0, h1⟩ | ⟨h0, h1⟩
  all_goals
    have H1 := Lib.hid h1
    have hlt := left_sign x.vals.length b
    go_enter Try.func13, Try.ntmps13
    go_wp2_with fail
    refine (szIntS_any _ x.vals b _ (hvals.below' (hb0 _)) hb).mono ?_
    rintro e w1 ⟨rfl, rfl⟩
    go_wp2
    go_ret
    exact ⟨ret_int (by first | rfl | (have := H1.out; unfold bulkFact; omega)), (hb0 _)⟩
set_option maxRecDepth 100000 in
set_option maxHeartbeats 400000 in
theorem markFact_any (x : FactD) (vvals : Value) (fvals : List Nat) (k0 : Int) (w : World) (hvals : ints w vvals x.vals fvals) (hnd : (fvals).Nodup) (hk0 : 0 ≤ k0) (hk1 : k0 + (x.vals.length : Nat) ≤ 1000000000) :
    Calls Try.prog 24 #[.agg #[.int .i64 x.rel, vvals], .int .i64 k0] w fun e w' => e = .returned (.int .i64 (k0 + (x.vals.length : Nat))) ∧ ints w' vvals (marks (k0) x.vals.length) fvals ∧ Wrote (fvals) w w' := by
  obtain ⟨avals, cvals, rfl⟩ := slR.form hvals
  have hnovals : w.heap.size ∉ fvals := fun hx => by have := hvals.lt _ hx; omega
  have hw0 : ∀ (ff : List Nat) (o : Obj), Wrote ff w (w.alloc o) := fun ff o => Wrote.alloc (Wrote.refl ff w) o
  go_enter Try.func24, Try.ntmps24
  go_wp2_with fail
  refine (markIntS_any _ x.vals fvals _ _ (hvals.below' ((Below.refl _ _).alloc (Nat.le_refl _) _)) ⟨by omega, by omega⟩ (by omega)).mono ?_
  rintro e w1 ⟨rfl, hmvals, hw1⟩
  have hc1 := fun o => hw1.cellAt (b := w.heap.size) (o := o) (by simp) hnovals
  go_wp2
  go_ret
  exact ⟨rfl, hmvals, (hw0 _ _).trans (hw1.mono (by simp))⟩
theorem infoFactS : (Try.prog.info? 38).map (fun i => (i.zero, i.size, i.bytes)) = some (some (.agg #[.int .i64 0, .slice none 0 0]), 2, 32) := by kernel_rfl
theorem slFactS : SlT Try.prog 68 38 (.agg #[.int .i64 0, .slice none 0 0]) 2 32 := slT_of Try.underlying68 infoFactS rfl (by decide)
def bulkFactS (l : List FactD) : Nat := l.length + (l.map fun x => bulkFact x).sum
set_option maxHeartbeats 800000 in
theorem toFactS_any (v : Value) (l : List FactD) (w : World) (h : factsV w v l) (hn : l.length ≤ 1048576) (nvals : ∀ x ∈ l, x.vals.length ≤ 1048576) :
    Calls Try.prog 40 #[v] w fun e w' => ∃ v' f, e = .returned v' ∧ facts w' v' l f ∧ Fresh w.heap.size f ∧ Below w.heap.size w w' := by
  obtain ⟨a, cap, rfl⟩ := slW.form h
  have hmk := make_row slFactS l.length (by omega) (by omega)
  go_enter Try.func40, Try.ntmps40
  go_wp2
  go_loopw [4] (fun i wr => ∃ (k : Nat) (f : List Nat), i = .int .i64 k ∧ k ≤ l.length ∧ partR 38 2 factR [.int .i64 0, .slice none 0 0] wr w.heap.size l k f ∧ Fresh (w.heap.size + 1) f ∧ Below w.heap.size w wr) (fun i _ => l.length - (intOf i).toNat)
  case atStart =>
    have h0 := part_start (E := 38) (sz := 2) (R := factR) w (.agg #[.int .i64 0, .slice none 0 0]) rfl (by decide) l (by unfold maxLen; omega)
    exact ⟨0, [], rfl, Nat.zero_le _, h0, Fresh.nil _, (Below.refl _ _).alloc (Nat.le_refl _) _⟩
  case round =>
    obtain ⟨k, f, rfl, hk, hp, hf, hbel⟩ := hrel
    by_cases hlt : k < l.length
    · obtain ⟨b, off, c, rfl, hcl, hc, xvals, rfl, irel, hvals⟩ := slW.at (h.below' hbel) k hlt
      have hc0 : wr.cell? ⟨b, off + k * 2, none⟩ = _ := hc 0 _ rfl
      have hc1 : wr.cell? ⟨b, off + k * 2 + 1, none⟩ = _ := hc 1 _ rfl
      have mvals := nvals l[k] (List.getElem_mem hlt)
      clear hc
      go_wp2_with fail
      refine (toFact_any l[k] _ _ hvals mvals).mono ?_
      rintro e w1 ⟨uvals, gvals, rfl, huvals, hfk, hb1⟩
      obtain ⟨avals', cvals', rfl⟩ := slR.form huvals
      have hp1 := part_below good_fact hp hb1
      have hd0 : w1.cell? ⟨w.heap.size, k * 2, none⟩ = _ := part_cells hp1 hlt rfl 0 _ rfl
      have hz0 := part_frozen hp1 hlt (k * 2)
      have hd1 : w1.cell? ⟨w.heap.size, k * 2 + 1, none⟩ = _ := part_cells hp1 hlt rfl 1 _ rfl
      have hz1 := part_frozen hp1 hlt (k * 2 + 1)
      have hpl := part_lt good_fact hp
      have hs := part_step good_fact (by decide) hp1 hlt rfl (c := [.int .i64 l[k].rel, .slice avals' l[k].vals.length cvals']) (fk := gvals) rfl ⟨_, rfl, irel, huvals⟩ (hf.notin (by omega)) (hfk.notin hpl.1)
      have hf' := hf.append hfk (by have := hpl.1; omega) hpl.2
      have hb2 := hbel.trans (hb1.mono hbel.size)
      clear hp hp1 hf hpl hc0 hc1 hfk huvals
      go_wp2
      go_roundw
      case rel => exact ⟨k + 1, f ++ (gvals), by go_num, by omega, hs, hf', ((hb2.setCell (Nat.le_refl _) _).setCell (Nat.le_refl _) _)⟩
      case measure => simp [intOf]; omega
    · have hkl : k = l.length := by omega
      have hs := part_full hp hkl
      subst hkl
      go_wp2
      go_ret
      exact ⟨_, _, rfl, hs, ⟨List.nodup_cons.2 ⟨hf.notin (by omega), hf.1⟩, fun g hg => by
        rcases List.mem_cons.1 hg with rfl | hg
        · exact Nat.le_refl _
        · have := hf.2 g hg; omega⟩, hbel⟩
set_option maxRecDepth 100000 in
set_option maxHeartbeats 800000 in
theorem eqFactS_any (va vb : Value) (l m : List FactD) (fa fb : List Nat) (w : World) (ha : facts w va l fa) (hb : facts w vb m fb) :
    Calls Try.prog 44 #[va, vb] w fun e w' => e = .returned (.bool (decide (l = m))) ∧ Below w.heap.size w w' := by
  obtain ⟨a, cap, rfl⟩ := slR.form ha
  obtain ⟨b, cap', rfl⟩ := slR.form hb
  have hla := slR.le_max ha
  by_cases hlen : l.length = m.length
  · have Hlen := Lib.hid hlen
    have hle : m.length ≤ l.length := by omega
    have hge : l.length ≤ m.length := by omega
    have hne0 : ((l.length : Int) != (m.length : Int)) = false := by simp [hlen]
    clear hlen
    go_enter Try.func44, Try.ntmps44
    go_wp2
    go_loopw [5] (fun i wr => ∃ k : Nat, i = .int .i64 k ∧ k ≤ l.length ∧ Hid (l.take k = m.take k) ∧ Below w.heap.size w wr) (fun i _ => l.length - (intOf i).toNat)
    case atStart => exact ⟨0, rfl, Nat.zero_le _, Lib.hid (by simp), Below.refl _ _⟩
    case round =>
      obtain ⟨k, rfl, hk, HT, hbel⟩ := hrel
      by_cases hlt : k < l.length
      · obtain ⟨g, c, fi, rfl, ⟨pxvals, rfl, pirel, phvals⟩, _, hc, _, _, _⟩ := slR.at (ha.below' hbel) k hlt
        obtain ⟨g', c', fi', rfl, ⟨qxvals, rfl, qirel, qhvals⟩, _, hc', _, _, _⟩ := slR.at (hb.below' hbel) k (by omega)
        have hp0 : wr.cell? ⟨g, k * 2, none⟩ = _ := hc 0 _ rfl
        have hq0 : wr.cell? ⟨g', k * 2, none⟩ = _ := hc' 0 _ rfl
        have hp1 : wr.cell? ⟨g, k * 2 + 1, none⟩ = _ := hc 1 _ rfl
        have hq1 : wr.cell? ⟨g', k * 2 + 1, none⟩ = _ := hc' 1 _ rfl
        clear hc hc'
        have hkm : (k : Int) < (m.length : Int) := by omega
        have hkl : (k : Int) < (l.length : Int) := by omega
        by_cases he : l[k] = m[k]
        · have HS := Lib.hid (take_eq_step hlt (by omega) HT.out he)
          have hne : decide (l[k] = m[k]) = true := by simp [he]
          clear he
          go_wp2
          have Hla := Lib.hid hla; clear hla
          refine wp_region_still_tail 8 (by kernel_rfl) (by kernel_rfl) ?_
          change wpStill _ _ (World.drew _) _ _ _
          simp only [List.take_succ_cons, List.take_zero, List.drop_succ_cons, List.drop_zero]
          iterate 8 still_step
          refine wpStill_nil ?_
          have hla := Hla.out
          change wpList _ _ _ _ _ wr.drew
          go_wp2_with fail
          refine (eqFact_any l[k] m[k] _ _ _ _ _ (phvals.below' (Below.drew (Below.refl _ _))) (qhvals.below' (Below.drew (Below.refl _ _)))).mono ?_
          rintro e w1 ⟨rfl, hb1⟩
          have hb2 : Below w.heap.size w w1 := Below.trans hbel.drew (hb1.mono hbel.size)
          go_wp2
          go_roundw
          case rel => exact ⟨k + 1, by go_num, by omega, HS, hb2⟩
          case measure => simp [intOf]; omega
        · have Hfin := Lib.hid (ne_of_get hlt (by omega) he)
          have hne : decide (l[k] = m[k]) = false := by simp [he]
          clear he
          go_wp2
          have Hla := Lib.hid hla; clear hla
          refine wp_region_still_tail 8 (by kernel_rfl) (by kernel_rfl) ?_
          change wpStill _ _ (World.drew _) _ _ _
          simp only [List.take_succ_cons, List.take_zero, List.drop_succ_cons, List.drop_zero]
          iterate 8 still_step
          refine wpStill_nil ?_
          have hla := Hla.out
          change wpList _ _ _ _ _ wr.drew
          go_wp2_with fail
          refine (eqFact_any l[k] m[k] _ _ _ _ _ (phvals.below' (Below.drew (Below.refl _ _))) (qhvals.below' (Below.drew (Below.refl _ _)))).mono ?_
          rintro e w1 ⟨rfl, hb1⟩
          have hb2 : Below w.heap.size w w1 := Below.trans hbel.drew (hb1.mono hbel.size)
          go_wp2
          go_ret
          exact ⟨ret_bool (by simp [Hfin.out]), hb2⟩
      · have hkl : k = l.length := by omega
        have Hfin := Lib.hid (eq_of_take Hlen.out (by have := HT.out; rw [hkl] at this; exact this))
        go_wp2
        go_ret
        exact ⟨ret_bool (by simp [Hfin.out]), hbel⟩
  · have hne0 : ((l.length : Int) != (m.length : Int)) = true := by simp; omega
    have Hfin := Lib.hid (show l ≠ m from fun h => hlen (by rw [h]))
    clear hlen
    go_enter Try.func44, Try.ntmps44
    go_wp2
    go_ret
    exact ⟨ret_bool (by simp [Hfin.out]), Below.refl _ _⟩
theorem bulkFactS_left (l : List FactD) (b : Int) (m k : Nat) (hk : k = l.length) (h : ((l.map fun x => bulkFact x).take k).sum = m) (hm : 0 ≤ b - (l.length : Int) - (m : Int)) : left (bulkFactS l) b = b - (l.length : Int) - (m : Int) := by
  unfold bulkFactS
  have h0 := left_sum (l.map fun x => bulkFact x) l.length b m k
  exact h0 (by rw [List.length_map]; exact hk) h hm
set_option maxHeartbeats 800000 in
theorem szFactS_any (v : Value) (l : List FactD) (b : Int) (w : World) (h : factsV w v l) (hb : 0 ≤ b ∧ b ≤ 1048576) :
    Calls Try.prog 37 #[v, .int .i64 b] w fun e w' => e = .returned (.int .i64 (left (bulkFactS l) b)) ∧ Below w.heap.size w w' := by
  obtain ⟨a, cap, rfl⟩ := slW.form h
  have hla := slW.le_max h
  by_cases h0 : b - l.length < 0
  · have Hf := Lib.hid (show left (bulkFactS l) b = -1 from left_neg (by unfold bulkFactS; omega))
    go_enter Try.func37, Try.ntmps37
    go_wp2
    go_ret
    exact ⟨ret_int (by rw [Hf.out]), Below.refl _ _⟩
  · go_enter Try.func37, Try.ntmps37
    go_wp2
    go_loopw [1, 5] (fun x i wr => ∃ k m : Nat, i = .int .i64 k ∧ k ≤ l.length ∧ x = .int .i64 (b - l.length - (m : Int)) ∧ Hid (((l.map fun x => bulkFact x).take k).sum = m) ∧ 0 ≤ b - l.length - (m : Int) ∧ Below w.heap.size w wr) (fun _ i _ => l.length - (intOf i).toNat)
    case atStart => exact ⟨0, 0, rfl, Nat.zero_le _, by simp, Lib.hid (by simp), by omega, Below.refl _ _⟩
    case round =>
      obtain ⟨k, m, rfl, hk, rfl, HM, hm, hbel⟩ := hrel
      by_cases hlt : k < l.length
      · obtain ⟨bb, off, c, rfl, hcl, hc, xvals, rfl, irel, hvals⟩ := slW.at (h.below' hbel) k hlt
        have hc0 : wr.cell? ⟨bb, off + k * 2, none⟩ = _ := hc 0 _ rfl
        have hc1 : wr.cell? ⟨bb, off + k * 2 + 1, none⟩ = _ := hc 1 _ rfl
        clear hc
        have HN := Lib.hid (sum_take_step (l.map fun x => bulkFact x) k (by simpa using hlt) m HM.out)
        have hge := sum_take_le (l.map fun x => bulkFact x) k (by simpa using hlt) m HM.out
        simp only [List.getElem_map] at hge
        have hpos : 0 ≤ b - l.length - (m : Int) ∧ b - l.length - (m : Int) ≤ 1048576 := ⟨hm, by omega⟩
        have hsg := left_sign (bulkFact l[k]) (b - l.length - (m : Int))
        rcases left_cases (bulkFact l[k]) (b - l.length - (m : Int)) hm with ⟨h2, h3⟩ | ⟨h2, h3⟩
        · have Hf := Lib.hid (show left (bulkFactS l) b = -1 from left_neg (by unfold bulkFactS; have := (left_le_iff h2 h3); omega))
          have H3 := Lib.hid h3; clear h3
          go_wp2_with fail
          refine (szFact_any l[k] _ _ _ hvals hpos).mono ?_
          rintro e w1 ⟨rfl, hb1⟩
          have hb2 := hbel.trans (hb1.mono hbel.size)
          go_wp2
          go_ret
          exact ⟨ret_int (by rw [Hf.out]), hb2⟩
        · have H3 := Lib.hid h3; clear h3
          go_wp2_with fail
          refine (szFact_any l[k] _ _ _ hvals hpos).mono ?_
          rintro e w1 ⟨rfl, hb1⟩
          have hb2 := hbel.trans (hb1.mono hbel.size)
          go_wp2
          go_roundw
          case rel => exact ⟨k + 1, m + (bulkFact l[k]), by go_num, by omega, by rw [H3.out]; go_num, Lib.hid (by have := HN.out; simpa using this), by have := H3.out; omega, hb2⟩
          case measure => simp [intOf]; omega
      · have hkl : k = l.length := by omega
        have Hf := Lib.hid (bulkFactS_left l b m k hkl HM.out hm)
        subst hkl
        go_wp2
        go_ret
        exact ⟨ret_int (by rw [Hf.out]), hbel⟩
def markFactD (k : Int) (x : FactD) : FactD := { rel := k, vals := marks (k + 1) x.vals.length }
def cntFact (x : FactD) : Nat := 1 + x.vals.length
set_option maxRecDepth 100000 in
set_option maxHeartbeats 1600000 in
theorem markFactS_any (v : Value) (l : List FactD) (f : List Nat) (k0 : Int) (w : World) (h : facts w v l f) (hnd : f.Nodup) (hk0 : 0 ≤ k0) (hk1 : k0 + ((l.map cntFact).sum : Nat) ≤ 1000000000) :
    Calls Try.prog 46 #[v, .int .i64 k0] w fun e w' => e = .returned (.int .i64 (k0 + ((l.map cntFact).sum : Nat))) ∧ facts w' v (markL markFactD cntFact k0 l) f ∧ Wrote f w w' := by
  obtain ⟨a, cap, rfl⟩ := slR.form h
  have hla := slR.le_max h
  go_enter Try.func46, Try.ntmps46
  go_wp2
  go_loopw [1, 5] (fun x i wr => ∃ j m : Nat, i = .int .i64 j ∧ j ≤ l.length ∧ x = .int .i64 (k0 + m) ∧ Hid (((l.map cntFact).take j).sum = m) ∧ facts wr (.slice a l.length cap) (markL markFactD cntFact k0 (l.take j) ++ l.drop j) f ∧ Wrote f w wr) (fun _ i _ => l.length - (intOf i).toNat)
  case atStart => exact ⟨0, 0, rfl, Nat.zero_le _, by simp, Lib.hid (by simp), by simpa [markL] using h, Wrote.refl _ _⟩
  case round =>
    obtain ⟨j, m, rfl, hj, rfl, HM, hr, hwr⟩ := hrel
    by_cases hlt : j < l.length
    · have hjl : j < (markL markFactD cntFact k0 (l.take j) ++ l.drop j).length := by simp [markL_length]; omega
      have hle : m + cntFact l[j] ≤ (l.map cntFact).sum := by have := sum_take_le (l.map cntFact) j (by simpa using hlt) m HM.out; simpa using this
      have hcnt : cntFact l[j] = 1 + l[j].vals.length := rfl
      have HS := Lib.hid (markL_step (mk := markFactD) (cnt := cntFact) k0 l j hlt m HM.out)
      have HN := Lib.hid (sum_take_step (l.map cntFact) j (by simpa using hlt) m HM.out)
      obtain ⟨g, c, fi, rfl, ho, hR⟩ := slR.open good_fact hr hnd hjl
      rw [markL_at k0 l j hlt hjl] at hR
      obtain ⟨xvals, rfl, irel, hvals⟩ := hR
      have hmem := ho.mem
      clear hr h
      have hc0_0 : wr.cell? ⟨g, j * 2, none⟩ = _ := ho.cell (by omega) 0 _ rfl
      have hz0_0 := ho.frozen (by omega) (j * 2)
      have hc0_1 : wr.cell? ⟨g, j * 2 + 1, none⟩ = _ := ho.cell (by omega) 1 _ rfl
      have hz0_1 := ho.frozen (by omega) (j * 2 + 1)
      have ho0 := ho.store 0 (by decide) (.int .i64 (k0 + (m : Int)))
      have hvals_0 : ints (wr.setCell ⟨g, j * 2, none⟩ (.int .i64 (k0 + (m : Int)))) xvals _ fi := ints.far hvals (p := ⟨g, j * 2, none⟩) (fun hx => hmem.2.1 (by simp [hx])) _
      go_wp2_with fail
      refine (markIntS_any _ l[j].vals fi _ _ hvals_0 ⟨by omega, by omega⟩ (by omega)).mono ?_
      rintro e w1 ⟨rfl, hmvals, hw1⟩
      have ho1 := ho0.wrote hw1 (fun x hx => by simp [hx])
      have hs := ho1.shut (d := markFactD (k0 + (m : Int)) l[j]) (by exact ⟨_, rfl, (by show I64 (k0 + (m : Int)); unfold I64; omega), hmvals⟩)
      rw [HS.out] at hs
      have hwr0 := Wrote.setCell hwr (p := ⟨g, j * 2, none⟩) hmem.1 (.int .i64 (k0 + (m : Int)))
      have hwr1 := Wrote.trans hwr0 (Wrote.mono hw1 (fun x hx => hmem.2.2.1 x (by simp [hx])))
      clear hmem ho
      go_wp2
      go_roundw
      case rel => exact ⟨j + 1, m + cntFact l[j], by go_num, by omega, by rw [hcnt]; go_num, Lib.hid (by have := HN.out; simpa using this), hs, hwr1⟩
      case measure => simp [intOf]; omega
    · have hkl : j = l.length := by omega
      have HM2 := Lib.hid (show (l.map cntFact).sum = m by have := HM.out; rw [hkl, List.take_of_length_le (by simp)] at this; exact this)
      have hr' : facts wr (.slice a l.length cap) (markL markFactD cntFact k0 l) f := by rw [hkl] at hr; simpa using hr
      subst hkl
      clear hr
      go_wp2
      go_ret
      exact ⟨ret_int (by rw [HM2.out]), hr', hwr⟩
set_option maxRecDepth 100000 in
set_option maxHeartbeats 1600000 in
theorem heldFactS_any (v : Value) (l : List FactD) (f : List Nat) (k0 : Int) (w : World) (h : facts w v (markL markFactD cntFact k0 l) f) (hk0 : 0 ≤ k0) (hk1 : k0 + ((l.map cntFact).sum : Nat) ≤ 1000000000) :
    Calls Try.prog 51 #[v, .int .i64 k0] w fun e w' => e = .returned (.int .i64 (k0 + ((l.map cntFact).sum : Nat))) ∧ Below w.heap.size w w' := by
  obtain ⟨a, cap, hv⟩ := slR.form h
  have hla := slR.le_max h
  rw [markL_length] at hv hla
  subst hv
  go_enter Try.func51, Try.ntmps51
  go_wp2
  go_loopw [1, 5] (fun x i wr => ∃ j m : Nat, i = .int .i64 j ∧ j ≤ l.length ∧ x = .int .i64 (k0 + m) ∧ Hid (((l.map cntFact).take j).sum = m) ∧ Below w.heap.size w wr) (fun _ i _ => l.length - (intOf i).toNat)
  case atStart => exact ⟨0, 0, rfl, Nat.zero_le _, by simp, Lib.hid (by simp), Below.refl _ _⟩
  case round =>
    obtain ⟨j, m, rfl, hj, rfl, HM, hbel⟩ := hrel
    by_cases hlt : j < l.length
    · have hjl : j < (markL markFactD cntFact k0 l).length := by rw [markL_length]; exact hlt
      have hle : m + cntFact l[j] ≤ (l.map cntFact).sum := by have := sum_take_le (l.map cntFact) j (by simpa using hlt) m HM.out; simpa using this
      have hcnt : cntFact l[j] = 1 + l[j].vals.length := rfl
      have HN := Lib.hid (sum_take_step (l.map cntFact) j (by simpa using hlt) m HM.out)
      obtain ⟨g, c, fi, rfl, hR, _, hc, _, _, _⟩ := slR.at (h.below' hbel) j hjl
      rw [markL_get k0 l j hlt m HM.out hjl] at hR
      obtain ⟨xvals, rfl, irel, hvals⟩ := hR
      have hc0 : wr.cell? ⟨g, j * 2, none⟩ = some (.int .i64 (k0 + (m : Int))) := hc 0 _ rfl
      have hc1 : wr.cell? ⟨g, j * 2 + 1, none⟩ = some xvals := hc 1 _ rfl
      have hne0 : ((k0 + (m : Int)) != (k0 + (m : Int))) = false := by simp
      have hhvals : ints wr xvals (marks (k0 + (m : Int) + 1) l[j].vals.length) fi := hvals
      clear hc
      go_wp2_with fail
      refine (heldIntS_any _ l[j].vals.length _ _ _ hhvals ⟨by omega, by omega⟩ (by omega)).mono ?_
      rintro e w1 ⟨rfl, hb1⟩
      have hB1 := Below.trans hbel (hb1.mono (Below.size hbel))
      have hb1_ : Below wr.heap.size wr w1 := hb1
      have hc0_1 : w1.cell? ⟨g, j * 2, none⟩ = _ := cell_below hc0 hb1_
      have hc1_1 : w1.cell? ⟨g, j * 2 + 1, none⟩ = _ := cell_below hc1 hb1_
      go_wp2
      go_roundw
      case rel => exact ⟨j + 1, m + cntFact l[j], by go_num, by omega, by rw [hcnt]; go_num, Lib.hid (by have := HN.out; simpa using this), hB1⟩
      case measure => simp [intOf]; omega
    · have hkl : j = l.length := by omega
      have HM2 := Lib.hid (show (l.map cntFact).sum = m by have := HM.out; rw [hkl, List.take_of_length_le (by simp)] at this; exact this)
      subst hkl
      go_wp2
      go_ret
      exact ⟨ret_int (by rw [HM2.out]), hbel⟩
end Go.Proofs.Ytjjkfhjkfoikbaa
