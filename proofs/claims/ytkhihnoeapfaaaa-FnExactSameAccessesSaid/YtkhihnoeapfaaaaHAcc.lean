/- The laws' helpers at Access and at slices of it: size, copy, comparison, marks, marks held. Conditions: the sizes that the laws themselves ask. -/
import Derived.Test.YtkhihnoeapfaaaaHBase
import Derived.StillTailTactics
namespace Go.Proofs.Ytkhihnoeapfaaaa
open Go.RowKit
set_option linter.unusedVariables false
set_option linter.unusedSimpArgs false
instance : DecidableEq AccD := fun a b => decidable_of_iff (a.meth = b.meth ∧ a.vals = b.vals) (by cases a; cases b; simp)
instance : Inhabited AccD := ⟨⟨0, []⟩⟩
def bulkAccess (x : AccD) : Nat := x.vals.length
set_option maxHeartbeats 400000 in
theorem toAccess_any (x : AccD) (vvals : Value) (w : World) (hvals : intsV w vvals x.vals) (nvals : x.vals.length ≤ 1048576) :
    Calls Try.prog 104 #[.agg #[.int .i64 x.meth, vvals]] w fun e w' => ∃ uvals gvals, e = .returned (.agg #[.int .i64 x.meth, uvals]) ∧ ints w' uvals x.vals gvals ∧ Fresh w.heap.size (gvals) ∧ Below w.heap.size w w' := by
  obtain ⟨avals, cvals, rfl⟩ := slW.form hvals
  have hb0 : ∀ o1 o2 o3 : Obj, Below w.heap.size w (((w.alloc o1).alloc o2).alloc o3) := fun o1 o2 o3 => (((Below.refl _ _).alloc (Nat.le_refl _) _).alloc (by simp) _).alloc (by simp; omega) _
  go_enter Try.func104, Try.ntmps104
  go_wp2_with fail
  refine (toIntS_any _ x.vals _ (hvals.below' ?_) nvals).mono ?_
  · repeat (refine Below.setCell ?_ (by simp <;> omega) _)
    exact hb0 _ _ _
  rintro e w1 ⟨uvals, gvals, rfl, huvals, hfvals, hb1⟩
  obtain ⟨avals', cvals', rfl⟩ := slR.form huvals
  have hz1 : w.heap.size + 2 < w1.heap.size := by have := hb1.size; simp at this; omega
  have hz1a : w.heap.size + 1 < w1.heap.size := by omega
  have hz1b : w.heap.size < w1.heap.size := by omega
  obtain ⟨hc1, hzz1⟩ := bcell hb1
  go_wp2
  refine bodyPost_ret (v := .agg #[.int .i64 x.meth, .slice avals' x.vals.length cvals']) (by simp [results, Try.results104, go_sem, hc1, hzz1, hz1, hz1a, hz1b]) rfl ⟨_, gvals, rfl, ?_, ?_, ?_⟩
  · repeat (refine ints.far ?_ (hfvals.notin (by simp <;> omega)) _)
    exact huvals
  · exact hfvals.mono (by simp; omega)
  · repeat (refine Below.setCell ?_ (by simp <;> omega) _)
    exact (hb0 _ _ _).trans (hb1.mono (by simp; omega))
set_option maxHeartbeats 800000 in
theorem eqAccess_any (x y : AccD) (vvals yvals : Value) (fvals gvals : List Nat) (w : World) (hvals : ints w vvals x.vals fvals) (kvals : ints w yvals y.vals gvals) :
    Calls Try.prog 106 #[.agg #[.int .i64 x.meth, vvals], .agg #[.int .i64 y.meth, yvals]] w fun e w' => e = .returned (.bool (decide (x = y))) ∧ Below w.heap.size w w' := by
  obtain ⟨avals, cvals, rfl⟩ := slR.form hvals
  obtain ⟨bvals, dvals, rfl⟩ := slR.form kvals
  have hb0 : ∀ o1 o2 : Obj, Below w.heap.size w ((w.alloc o1).alloc o2) := fun o1 o2 => ((Below.refl _ _).alloc (Nat.le_refl _) _).alloc (by simp) _
  by_cases emeth : x.meth = y.meth
  case neg =>
    have tmeth : (x.meth != y.meth) = true := by simp [emeth]
    have Hfin := Lib.hid (show decide (x = y) = false from decide_eq_false (fun h => emeth (by rw [h])))
    clear emeth
    go_enter Try.func106, Try.ntmps106
    go_wp2
    go_ret
    exact ⟨ret_bool (by rw [Hfin.out]), hb0 _ _⟩
  by_cases evals : x.vals = y.vals
  case neg =>
    have tmeth : (x.meth != y.meth) = false := by simp [emeth]
    have tvals : decide (x.vals = y.vals) = false := by simp [evals]
    have Hfin := Lib.hid (show decide (x = y) = false from decide_eq_false (fun h => evals (by rw [h])))
    clear emeth
    clear evals
    go_enter Try.func106, Try.ntmps106
    go_wp2_with fail
    refine (eqIntS_any _ _ _ _ _ _ _ (hvals.below' (hb0 _ _)) (kvals.below' (hb0 _ _))).mono ?_
    rintro e w1 ⟨rfl, hb1⟩
    have hB1 := Below.trans (hb0 _ _) (hb1.mono (hb0 _ _).size)
    have hz1 : w.heap.size + 1 < w1.heap.size := by have := hb1.size; simp at this; omega
    obtain ⟨hc1, hzz1⟩ := bcell hb1
    go_wp2
    go_ret
    exact ⟨ret_bool (by rw [Hfin.out]), hB1⟩
  have tmeth : (x.meth != y.meth) = false := by simp [emeth]
  have tvals : decide (x.vals = y.vals) = true := by simp [evals]
  have Hfin := Lib.hid (show decide (x = y) = true from decide_eq_true (by cases x; cases y; simp_all))
  clear emeth
  clear evals
  go_enter Try.func106, Try.ntmps106
  go_wp2_with fail
  refine (eqIntS_any _ _ _ _ _ _ _ (hvals.below' (hb0 _ _)) (kvals.below' (hb0 _ _))).mono ?_
  rintro e w1 ⟨rfl, hb1⟩
  have hB1 := Below.trans (hb0 _ _) (hb1.mono (hb0 _ _).size)
  have hz1 : w.heap.size + 1 < w1.heap.size := by have := hb1.size; simp at this; omega
  obtain ⟨hc1, hzz1⟩ := bcell hb1
  go_wp2
  go_ret
  exact ⟨ret_bool (by rw [Hfin.out]), hB1⟩
set_option maxHeartbeats 400000 in
theorem szAccess_any (x : AccD) (vvals : Value) (b : Int) (w : World) (hvals : intsV w vvals x.vals) (hb : 0 ≤ b ∧ b ≤ 1048576) :
    Calls Try.prog 102 #[.agg #[.int .i64 x.meth, vvals], .int .i64 b] w fun e w' => e = .returned (.int .i64 (left (bulkAccess x) b)) ∧ Below w.heap.size w w' := by
  obtain ⟨avals, cvals, rfl⟩ := slW.form hvals
  have hb0 : ∀ o1 : Obj, Below w.heap.size w (w.alloc o1) := fun o1 => (Below.refl _ _).alloc (Nat.le_refl _) _
  have hl := left_cases x.vals.length b hb.1
  rcases hl with ⟨h0, h1⟩ | ⟨h0, h1⟩
  all_goals
    have H1 := Lib.hid h1
    have hlt := left_sign x.vals.length b
    go_enter Try.func102, Try.ntmps102
    go_wp2_with fail
    refine (szIntS_any _ x.vals b _ (hvals.below' (hb0 _)) hb).mono ?_
    rintro e w1 ⟨rfl, rfl⟩
    go_wp2
    go_ret
    exact ⟨ret_int (by first | rfl | (have := H1.out; unfold bulkAccess; omega)), (hb0 _)⟩
set_option maxRecDepth 100000 in
set_option maxHeartbeats 400000 in
theorem markAccess_any (x : AccD) (vvals : Value) (fvals : List Nat) (k0 : Int) (w : World) (hvals : ints w vvals x.vals fvals) (hnd : (fvals).Nodup) (hk0 : 0 ≤ k0) (hk1 : k0 + (x.vals.length : Nat) ≤ 1000000000) :
    Calls Try.prog 135 #[.agg #[.int .i64 x.meth, vvals], .int .i64 k0] w fun e w' => e = .returned (.int .i64 (k0 + (x.vals.length : Nat))) ∧ ints w' vvals (marks (k0) x.vals.length) fvals ∧ Wrote (fvals) w w' := by
  obtain ⟨avals, cvals, rfl⟩ := slR.form hvals
  have hnovals : w.heap.size ∉ fvals := fun hx => by have := hvals.lt _ hx; omega
  have hw0 : ∀ (ff : List Nat) (o : Obj), Wrote ff w (w.alloc o) := fun ff o => Wrote.alloc (Wrote.refl ff w) o
  go_enter Try.func135, Try.ntmps135
  go_wp2_with fail
  refine (markIntS_any _ x.vals fvals _ _ (hvals.below' ((Below.refl _ _).alloc (Nat.le_refl _) _)) ⟨by omega, by omega⟩ (by omega)).mono ?_
  rintro e w1 ⟨rfl, hmvals, hw1⟩
  have hc1 := fun o => hw1.cellAt (b := w.heap.size) (o := o) (by simp) hnovals
  go_wp2
  go_ret
  exact ⟨rfl, hmvals, (hw0 _ _).trans (hw1.mono (by simp))⟩
theorem infoAccessS : (Try.prog.info? 114).map (fun i => (i.zero, i.size, i.bytes)) = some (some (.agg #[.int .i64 0, .slice none 0 0]), 2, 32) := by kernel_rfl
theorem slAccessS : SlT Try.prog 59 114 (.agg #[.int .i64 0, .slice none 0 0]) 2 32 := slT_of Try.underlying59 infoAccessS rfl (by decide)
def bulkAccessS (l : List AccD) : Nat := l.length + (l.map fun x => bulkAccess x).sum
set_option maxHeartbeats 800000 in
theorem toAccessS_any (v : Value) (l : List AccD) (w : World) (h : accsV w v l) (hn : l.length ≤ 1048576) (nvals : ∀ x ∈ l, x.vals.length ≤ 1048576) :
    Calls Try.prog 60 #[v] w fun e w' => ∃ v' f, e = .returned v' ∧ accs w' v' l f ∧ Fresh w.heap.size f ∧ Below w.heap.size w w' := by
  obtain ⟨a, cap, rfl⟩ := slW.form h
  have hmk := make_row slAccessS l.length (by omega) (by omega)
  go_enter Try.func60, Try.ntmps60
  go_wp2
  go_loopw [4] (fun i wr => ∃ (k : Nat) (f : List Nat), i = .int .i64 k ∧ k ≤ l.length ∧ partR 114 2 accR [.int .i64 0, .slice none 0 0] wr w.heap.size l k f ∧ Fresh (w.heap.size + 1) f ∧ Below w.heap.size w wr) (fun i _ => l.length - (intOf i).toNat)
  case atStart =>
    have h0 := part_start (E := 114) (sz := 2) (R := accR) w (.agg #[.int .i64 0, .slice none 0 0]) rfl (by decide) l (by unfold maxLen; omega)
    exact ⟨0, [], rfl, Nat.zero_le _, h0, Fresh.nil _, (Below.refl _ _).alloc (Nat.le_refl _) _⟩
  case round =>
    obtain ⟨k, f, rfl, hk, hp, hf, hbel⟩ := hrel
    by_cases hlt : k < l.length
    · obtain ⟨b, off, c, rfl, hcl, hc, xvals, rfl, imeth, hvals⟩ := slW.at (h.below' hbel) k hlt
      have hc0 : wr.cell? ⟨b, off + k * 2, none⟩ = _ := hc 0 _ rfl
      have hc1 : wr.cell? ⟨b, off + k * 2 + 1, none⟩ = _ := hc 1 _ rfl
      have mvals := nvals l[k] (List.getElem_mem hlt)
      clear hc
      go_wp2_with fail
      refine (toAccess_any l[k] _ _ hvals mvals).mono ?_
      rintro e w1 ⟨uvals, gvals, rfl, huvals, hfk, hb1⟩
      obtain ⟨avals', cvals', rfl⟩ := slR.form huvals
      have hp1 := part_below good_acc hp hb1
      have hd0 : w1.cell? ⟨w.heap.size, k * 2, none⟩ = _ := part_cells hp1 hlt rfl 0 _ rfl
      have hz0 := part_frozen hp1 hlt (k * 2)
      have hd1 : w1.cell? ⟨w.heap.size, k * 2 + 1, none⟩ = _ := part_cells hp1 hlt rfl 1 _ rfl
      have hz1 := part_frozen hp1 hlt (k * 2 + 1)
      have hpl := part_lt good_acc hp
      have hs := part_step good_acc (by decide) hp1 hlt rfl (c := [.int .i64 l[k].meth, .slice avals' l[k].vals.length cvals']) (fk := gvals) rfl ⟨_, rfl, imeth, huvals⟩ (hf.notin (by omega)) (hfk.notin hpl.1)
      have hf' := hf.append hfk (by have := hpl.1; omega) hpl.2
      have hb2 := hbel.trans (hb1.mono hbel.size)
      clear hp hp1 hf hpl hc0 hc1 hfk huvals
      go_wp2
      go_roundw
      case rel => exact ⟨k + 1, f ++ (gvals), by go_num, by omega, hs, hf', ((hb2.setCell (Nat.le_refl _) _).setCell (Nat.le_refl _) _)⟩
      case measure => simp [intOf]; omega
    · have hkl : k = l.length := by omega
      have hs := part_full hp hkl
      subst hkl
      go_wp2
      go_ret
      exact ⟨_, _, rfl, hs, ⟨List.nodup_cons.2 ⟨hf.notin (by omega), hf.1⟩, fun g hg => by
        rcases List.mem_cons.1 hg with rfl | hg
        · exact Nat.le_refl _
        · have := hf.2 g hg; omega⟩, hbel⟩
set_option maxRecDepth 100000 in
set_option maxHeartbeats 800000 in
theorem eqAccessS_any (va vb : Value) (l m : List AccD) (fa fb : List Nat) (w : World) (ha : accs w va l fa) (hb : accs w vb m fb) :
    Calls Try.prog 62 #[va, vb] w fun e w' => e = .returned (.bool (decide (l = m))) ∧ Below w.heap.size w w' := by
  obtain ⟨a, cap, rfl⟩ := slR.form ha
  obtain ⟨b, cap', rfl⟩ := slR.form hb
  have hla := slR.le_max ha
  by_cases hlen : l.length = m.length
  · have Hlen := Lib.hid hlen
    have hle : m.length ≤ l.length := by omega
    have hge : l.length ≤ m.length := by omega
    have hne0 : ((l.length : Int) != (m.length : Int)) = false := by simp [hlen]
    clear hlen
    go_enter Try.func62, Try.ntmps62
    go_wp2
    go_loopw [5] (fun i wr => ∃ k : Nat, i = .int .i64 k ∧ k ≤ l.length ∧ Hid (l.take k = m.take k) ∧ Below w.heap.size w wr) (fun i _ => l.length - (intOf i).toNat)
    case atStart => exact ⟨0, rfl, Nat.zero_le _, Lib.hid (by simp), Below.refl _ _⟩
    case round =>
      obtain ⟨k, rfl, hk, HT, hbel⟩ := hrel
      by_cases hlt : k < l.length
      · obtain ⟨g, c, fi, rfl, ⟨pxvals, rfl, pimeth, phvals⟩, _, hc, _, _, _⟩ := slR.at (ha.below' hbel) k hlt
        obtain ⟨g', c', fi', rfl, ⟨qxvals, rfl, qimeth, qhvals⟩, _, hc', _, _, _⟩ := slR.at (hb.below' hbel) k (by omega)
        have hp0 : wr.cell? ⟨g, k * 2, none⟩ = _ := hc 0 _ rfl
        have hq0 : wr.cell? ⟨g', k * 2, none⟩ = _ := hc' 0 _ rfl
        have hp1 : wr.cell? ⟨g, k * 2 + 1, none⟩ = _ := hc 1 _ rfl
        have hq1 : wr.cell? ⟨g', k * 2 + 1, none⟩ = _ := hc' 1 _ rfl
        clear hc hc'
        have hkm : (k : Int) < (m.length : Int) := by omega
        have hkl : (k : Int) < (l.length : Int) := by omega
        by_cases he : l[k] = m[k]
        · have HS := Lib.hid (take_eq_step hlt (by omega) HT.out he)
          have hne : decide (l[k] = m[k]) = true := by simp [he]
          clear he
          go_wp2
          have Hla := Lib.hid hla; clear hla
          refine wp_region_still_tail 8 (by kernel_rfl) (by kernel_rfl) ?_
          change wpStill _ _ (World.drew _) _ _ _
          simp only [List.take_succ_cons, List.take_zero, List.drop_succ_cons, List.drop_zero]
          iterate 8 still_step
          refine wpStill_nil ?_
          have hla := Hla.out
          change wpList _ _ _ _ _ wr.drew
          go_wp2_with fail
          refine (eqAccess_any l[k] m[k] _ _ _ _ _ (phvals.below' (Below.drew (Below.refl _ _))) (qhvals.below' (Below.drew (Below.refl _ _)))).mono ?_
          rintro e w1 ⟨rfl, hb1⟩
          have hb2 : Below w.heap.size w w1 := Below.trans hbel.drew (hb1.mono hbel.size)
          go_wp2
          go_roundw
          case rel => exact ⟨k + 1, by go_num, by omega, HS, hb2⟩
          case measure => simp [intOf]; omega
        · have Hfin := Lib.hid (ne_of_get hlt (by omega) he)
          have hne : decide (l[k] = m[k]) = false := by simp [he]
          clear he
          go_wp2
          have Hla := Lib.hid hla; clear hla
          refine wp_region_still_tail 8 (by kernel_rfl) (by kernel_rfl) ?_
          change wpStill _ _ (World.drew _) _ _ _
          simp only [List.take_succ_cons, List.take_zero, List.drop_succ_cons, List.drop_zero]
          iterate 8 still_step
          refine wpStill_nil ?_
          have hla := Hla.out
          change wpList _ _ _ _ _ wr.drew
          go_wp2_with fail
          refine (eqAccess_any l[k] m[k] _ _ _ _ _ (phvals.below' (Below.drew (Below.refl _ _))) (qhvals.below' (Below.drew (Below.refl _ _)))).mono ?_
          rintro e w1 ⟨rfl, hb1⟩
          have hb2 : Below w.heap.size w w1 := Below.trans hbel.drew (hb1.mono hbel.size)
          go_wp2
          go_ret
          exact ⟨ret_bool (by simp [Hfin.out]), hb2⟩
      · have hkl : k = l.length := by omega
        have Hfin := Lib.hid (eq_of_take Hlen.out (by have := HT.out; rw [hkl] at this; exact this))
        go_wp2
        go_ret
        exact ⟨ret_bool (by simp [Hfin.out]), hbel⟩
  · have hne0 : ((l.length : Int) != (m.length : Int)) = true := by simp; omega
    have Hfin := Lib.hid (show l ≠ m from fun h => hlen (by rw [h]))
    clear hlen
    go_enter Try.func62, Try.ntmps62
    go_wp2
    go_ret
    exact ⟨ret_bool (by simp [Hfin.out]), Below.refl _ _⟩
theorem bulkAccessS_left (l : List AccD) (b : Int) (m k : Nat) (hk : k = l.length) (h : ((l.map fun x => bulkAccess x).take k).sum = m) (hm : 0 ≤ b - (l.length : Int) - (m : Int)) : left (bulkAccessS l) b = b - (l.length : Int) - (m : Int) := by
  unfold bulkAccessS
  have h0 := left_sum (l.map fun x => bulkAccess x) l.length b m k
  exact h0 (by rw [List.length_map]; exact hk) h hm
set_option maxHeartbeats 800000 in
theorem szAccessS_any (v : Value) (l : List AccD) (b : Int) (w : World) (h : accsV w v l) (hb : 0 ≤ b ∧ b ≤ 1048576) :
    Calls Try.prog 58 #[v, .int .i64 b] w fun e w' => e = .returned (.int .i64 (left (bulkAccessS l) b)) ∧ Below w.heap.size w w' := by
  obtain ⟨a, cap, rfl⟩ := slW.form h
  have hla := slW.le_max h
  by_cases h0 : b - l.length < 0
  · have Hf := Lib.hid (show left (bulkAccessS l) b = -1 from left_neg (by unfold bulkAccessS; omega))
    go_enter Try.func58, Try.ntmps58
    go_wp2
    go_ret
    exact ⟨ret_int (by rw [Hf.out]), Below.refl _ _⟩
  · go_enter Try.func58, Try.ntmps58
    go_wp2
    go_loopw [1, 5] (fun x i wr => ∃ k m : Nat, i = .int .i64 k ∧ k ≤ l.length ∧ x = .int .i64 (b - l.length - (m : Int)) ∧ Hid (((l.map fun x => bulkAccess x).take k).sum = m) ∧ 0 ≤ b - l.length - (m : Int) ∧ Below w.heap.size w wr) (fun _ i _ => l.length - (intOf i).toNat)
    case atStart => exact ⟨0, 0, rfl, Nat.zero_le _, by simp, Lib.hid (by simp), by omega, Below.refl _ _⟩
    case round =>
      obtain ⟨k, m, rfl, hk, rfl, HM, hm, hbel⟩ := hrel
      by_cases hlt : k < l.length
      · obtain ⟨bb, off, c, rfl, hcl, hc, xvals, rfl, imeth, hvals⟩ := slW.at (h.below' hbel) k hlt
        have hc0 : wr.cell? ⟨bb, off + k * 2, none⟩ = _ := hc 0 _ rfl
        have hc1 : wr.cell? ⟨bb, off + k * 2 + 1, none⟩ = _ := hc 1 _ rfl
        clear hc
        have HN := Lib.hid (sum_take_step (l.map fun x => bulkAccess x) k (by simpa using hlt) m HM.out)
        have hge := sum_take_le (l.map fun x => bulkAccess x) k (by simpa using hlt) m HM.out
        simp only [List.getElem_map] at hge
        have hpos : 0 ≤ b - l.length - (m : Int) ∧ b - l.length - (m : Int) ≤ 1048576 := ⟨hm, by omega⟩
        have hsg := left_sign (bulkAccess l[k]) (b - l.length - (m : Int))
        rcases left_cases (bulkAccess l[k]) (b - l.length - (m : Int)) hm with ⟨h2, h3⟩ | ⟨h2, h3⟩
        · have Hf := Lib.hid (show left (bulkAccessS l) b = -1 from left_neg (by unfold bulkAccessS; have := (left_le_iff h2 h3); omega))
          have H3 := Lib.hid h3; clear h3
          go_wp2_with fail
          refine (szAccess_any l[k] _ _ _ hvals hpos).mono ?_
          rintro e w1 ⟨rfl, hb1⟩
          have hb2 := hbel.trans (hb1.mono hbel.size)
          go_wp2
          go_ret
          exact ⟨ret_int (by rw [Hf.out]), hb2⟩
        · have H3 := Lib.hid h3; clear h3
          go_wp2_with fail
          refine (szAccess_any l[k] _ _ _ hvals hpos).mono ?_
          rintro e w1 ⟨rfl, hb1⟩
          have hb2 := hbel.trans (hb1.mono hbel.size)
          go_wp2
          go_roundw
          case rel => exact ⟨k + 1, m + (bulkAccess l[k]), by go_num, by omega, by rw [H3.out]; go_num, Lib.hid (by have := HN.out; simpa using this), by have := H3.out; omega, hb2⟩
          case measure => simp [intOf]; omega
      · have hkl : k = l.length := by omega
        have Hf := Lib.hid (bulkAccessS_left l b m k hkl HM.out hm)
        subst hkl
        go_wp2
        go_ret
        exact ⟨ret_int (by rw [Hf.out]), hbel⟩
def markAccessD (k : Int) (x : AccD) : AccD := { meth := k, vals := marks (k + 1) x.vals.length }
def cntAccess (x : AccD) : Nat := 1 + x.vals.length
end Go.Proofs.Ytkhihnoeapfaaaa
