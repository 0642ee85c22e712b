/- The laws' helpers at Step and at slices of it: size, copy, comparison, marks, marks held. Conditions: the sizes that the laws themselves ask. -/
import Derived.Test.YtjjkfhjkfoikbaaHBase
import Derived.StillTailTactics
namespace Go.Proofs.Ytjjkfhjkfoikbaa
open Go.RowKit
set_option linter.unusedVariables false
set_option linter.unusedSimpArgs false
instance : DecidableEq StepD := fun a b => decidable_of_iff (a.atom = b.atom ∧ a.meth = b.meth) (by cases a; cases b; simp)
instance : Inhabited StepD := ⟨⟨0, 0⟩⟩
def bulkStep (x : StepD) : Nat := 0
set_option maxHeartbeats 400000 in
theorem toStep_any (x : StepD) (w : World)  :
    Calls Try.prog 115 #[.agg #[.int .i64 x.atom, .int .i64 x.meth]] w fun e w' => e = .returned (.agg #[.int .i64 x.atom, .int .i64 x.meth]) ∧ Below w.heap.size w w' := by
  have hb0 : ∀ o1 o2 o3 : Obj, Below w.heap.size w (((w.alloc o1).alloc o2).alloc o3) := fun o1 o2 o3 => (((Below.refl _ _).alloc (Nat.le_refl _) _).alloc (by simp) _).alloc (by simp; omega) _
  go_enter Try.func115, Try.ntmps115
  go_wp2
  refine bodyPost_ret (v := .agg #[.int .i64 x.atom, .int .i64 x.meth]) (by simp [results, Try.results115, go_sem]) rfl ⟨rfl, ?_⟩
  · repeat (refine Below.setCell ?_ (by simp <;> omega) _)
    exact hb0 _ _ _
set_option maxHeartbeats 800000 in
theorem eqStep_any (x y : StepD) (w : World)  :
    Calls Try.prog 119 #[.agg #[.int .i64 x.atom, .int .i64 x.meth], .agg #[.int .i64 y.atom, .int .i64 y.meth]] w fun e w' => e = .returned (.bool (decide (x = y))) ∧ Below w.heap.size w w' := by
  have hb0 : ∀ o1 o2 : Obj, Below w.heap.size w ((w.alloc o1).alloc o2) := fun o1 o2 => ((Below.refl _ _).alloc (Nat.le_refl _) _).alloc (by simp) _
  by_cases eatom : x.atom = y.atom
  case neg =>
    have tatom : (x.atom != y.atom) = true := by simp [eatom]
    have Hfin := Lib.hid (show decide (x = y) = false from decide_eq_false (fun h => eatom (by rw [h])))
    clear eatom
    go_enter Try.func119, Try.ntmps119
    go_wp2
    go_ret
    exact ⟨ret_bool (by rw [Hfin.out]), hb0 _ _⟩
  by_cases emeth : x.meth = y.meth
  case neg =>
    have tatom : (x.atom != y.atom) = false := by simp [eatom]
    have tmeth : (x.meth != y.meth) = true := by simp [emeth]
    have Hfin := Lib.hid (show decide (x = y) = false from decide_eq_false (fun h => emeth (by rw [h])))
    clear eatom
    clear emeth
    go_enter Try.func119, Try.ntmps119
    go_wp2
    go_ret
    exact ⟨ret_bool (by rw [Hfin.out]), hb0 _ _⟩
  have tatom : (x.atom != y.atom) = false := by simp [eatom]
  have tmeth : (x.meth != y.meth) = false := by simp [emeth]
  have Hfin := Lib.hid (show decide (x = y) = true from decide_eq_true (by cases x; cases y; simp_all))
  clear eatom
  clear emeth
  go_enter Try.func119, Try.ntmps119
  go_wp2
  go_ret
  exact ⟨ret_bool (by rw [Hfin.out]), hb0 _ _⟩
theorem infoStepS : (Try.prog.info? 135).map (fun i => (i.zero, i.size, i.bytes)) = some (some (.agg #[.int .i64 0, .int .i64 0]), 2, 16) := by kernel_rfl
theorem slStepS : SlT Try.prog 101 135 (.agg #[.int .i64 0, .int .i64 0]) 2 16 := slT_of Try.underlying101 infoStepS rfl (by decide)
def bulkStepS (l : List StepD) : Nat := l.length + (l.map fun x => bulkStep x).sum
set_option maxHeartbeats 800000 in
theorem toStepS_any (v : Value) (l : List StepD) (w : World) (h : stepsV w v l) (hn : l.length ≤ 1048576)  :
    Calls Try.prog 68 #[v] w fun e w' => ∃ v' f, e = .returned v' ∧ steps w' v' l f ∧ Fresh w.heap.size f ∧ Below w.heap.size w w' := by
  obtain ⟨a, cap, rfl⟩ := slW.form h
  have hmk := make_row slStepS l.length (by omega) (by omega)
  go_enter Try.func68, Try.ntmps68
  go_wp2
  go_loopw [4] (fun i wr => ∃ (k : Nat) (f : List Nat), i = .int .i64 k ∧ k ≤ l.length ∧ partR 135 2 stepR [.int .i64 0, .int .i64 0] wr w.heap.size l k f ∧ Fresh (w.heap.size + 1) f ∧ Below w.heap.size w wr) (fun i _ => l.length - (intOf i).toNat)
  case atStart =>
    have h0 := part_start (E := 135) (sz := 2) (R := stepR) w (.agg #[.int .i64 0, .int .i64 0]) rfl (by decide) l (by unfold maxLen; omega)
    exact ⟨0, [], rfl, Nat.zero_le _, h0, Fresh.nil _, (Below.refl _ _).alloc (Nat.le_refl _) _⟩
  case round =>
    obtain ⟨k, f, rfl, hk, hp, hf, hbel⟩ := hrel
    by_cases hlt : k < l.length
    · obtain ⟨b, off, c, rfl, hcl, hc, rfl, iatom, imeth⟩ := slW.at (h.below' hbel) k hlt
      have hc0 : wr.cell? ⟨b, off + k * 2, none⟩ = _ := hc 0 _ rfl
      have hc1 : wr.cell? ⟨b, off + k * 2 + 1, none⟩ = _ := hc 1 _ rfl
      clear hc
      go_wp2_with fail
      refine (toStep_any l[k]  _ ).mono ?_
      rintro e w1 ⟨rfl, hb1⟩
      have hp1 := part_below good_step hp hb1
      have hd0 : w1.cell? ⟨w.heap.size, k * 2, none⟩ = _ := part_cells hp1 hlt rfl 0 _ rfl
      have hz0 := part_frozen hp1 hlt (k * 2)
      have hd1 : w1.cell? ⟨w.heap.size, k * 2 + 1, none⟩ = _ := part_cells hp1 hlt rfl 1 _ rfl
      have hz1 := part_frozen hp1 hlt (k * 2 + 1)
      have hpl := part_lt good_step hp
      have hs := part_step good_step (by decide) hp1 hlt rfl (c := [.int .i64 l[k].atom, .int .i64 l[k].meth]) (fk := []) rfl ⟨rfl, rfl, iatom, imeth⟩ (hf.notin (by omega)) (by simp)
      have hf' := hf.append (Fresh.nil wr.heap.size) (by have := hpl.1; omega) hpl.2
      have hb2 := hbel.trans (hb1.mono hbel.size)
      clear hp hp1 hf hpl hc0 hc1
      go_wp2
      go_roundw
      case rel => exact ⟨k + 1, f ++ ([]), by go_num, by omega, hs, hf', ((hb2.setCell (Nat.le_refl _) _).setCell (Nat.le_refl _) _)⟩
      case measure => simp [intOf]; omega
    · have hkl : k = l.length := by omega
      have hs := part_full hp hkl
      subst hkl
      go_wp2
      go_ret
      exact ⟨_, _, rfl, hs, ⟨List.nodup_cons.2 ⟨hf.notin (by omega), hf.1⟩, fun g hg => by
        rcases List.mem_cons.1 hg with rfl | hg
        · exact Nat.le_refl _
        · have := hf.2 g hg; omega⟩, hbel⟩
set_option maxRecDepth 100000 in
set_option maxHeartbeats 800000 in
theorem eqStepS_any (va vb : Value) (l m : List StepD) (fa fb : List Nat) (w : World) (ha : steps w va l fa) (hb : steps w vb m fb) :
    Calls Try.prog 70 #[va, vb] w fun e w' => e = .returned (.bool (decide (l = m))) ∧ Below w.heap.size w w' := by
  obtain ⟨a, cap, rfl⟩ := slR.form ha
  obtain ⟨b, cap', rfl⟩ := slR.form hb
  have hla := slR.le_max ha
  by_cases hlen : l.length = m.length
  · have Hlen := Lib.hid hlen
    have hle : m.length ≤ l.length := by omega
    have hge : l.length ≤ m.length := by omega
    have hne0 : ((l.length : Int) != (m.length : Int)) = false := by simp [hlen]
    clear hlen
    go_enter Try.func70, Try.ntmps70
    go_wp2
    go_loopw [5] (fun i wr => ∃ k : Nat, i = .int .i64 k ∧ k ≤ l.length ∧ Hid (l.take k = m.take k) ∧ Below w.heap.size w wr) (fun i _ => l.length - (intOf i).toNat)
    case atStart => exact ⟨0, rfl, Nat.zero_le _, Lib.hid (by simp), Below.refl _ _⟩
    case round =>
      obtain ⟨k, rfl, hk, HT, hbel⟩ := hrel
      by_cases hlt : k < l.length
      · obtain ⟨g, c, fi, rfl, ⟨rfl, pf, piatom, pimeth⟩, _, hc, _, _, _⟩ := slR.at (ha.below' hbel) k hlt
        obtain ⟨g', c', fi', rfl, ⟨rfl, qf, qiatom, qimeth⟩, _, hc', _, _, _⟩ := slR.at (hb.below' hbel) k (by omega)
        have hp0 : wr.cell? ⟨g, k * 2, none⟩ = _ := hc 0 _ rfl
        have hq0 : wr.cell? ⟨g', k * 2, none⟩ = _ := hc' 0 _ rfl
        have hp1 : wr.cell? ⟨g, k * 2 + 1, none⟩ = _ := hc 1 _ rfl
        have hq1 : wr.cell? ⟨g', k * 2 + 1, none⟩ = _ := hc' 1 _ rfl
        clear hc hc'
        have hkm : (k : Int) < (m.length : Int) := by omega
        have hkl : (k : Int) < (l.length : Int) := by omega
        by_cases he : l[k] = m[k]
        · have HS := Lib.hid (take_eq_step hlt (by omega) HT.out he)
          have hne : decide (l[k] = m[k]) = true := by simp [he]
          clear he
          go_wp2
          have Hla := Lib.hid hla; clear hla
          refine wp_region_still_tail 8 (by kernel_rfl) (by kernel_rfl) ?_
          change wpStill _ _ (World.drew _) _ _ _
          simp only [List.take_succ_cons, List.take_zero, List.drop_succ_cons, List.drop_zero]
          iterate 8 still_step
          refine wpStill_nil ?_
          have hla := Hla.out
          change wpList _ _ _ _ _ wr.drew
          go_wp2_with fail
          refine (eqStep_any l[k] m[k] _ ).mono ?_
          rintro e w1 ⟨rfl, hb1⟩
          have hb2 : Below w.heap.size w w1 := Below.trans hbel.drew (hb1.mono hbel.size)
          go_wp2
          go_roundw
          case rel => exact ⟨k + 1, by go_num, by omega, HS, hb2⟩
          case measure => simp [intOf]; omega
        · have Hfin := Lib.hid (ne_of_get hlt (by omega) he)
          have hne : decide (l[k] = m[k]) = false := by simp [he]
          clear he
          go_wp2
          have Hla := Lib.hid hla; clear hla
          refine wp_region_still_tail 8 (by kernel_rfl) (by kernel_rfl) ?_
          change wpStill _ _ (World.drew _) _ _ _
          simp only [List.take_succ_cons, List.take_zero, List.drop_succ_cons, List.drop_zero]
          iterate 8 still_step
          refine wpStill_nil ?_
          have hla := Hla.out
          change wpList _ _ _ _ _ wr.drew
          go_wp2_with fail
          refine (eqStep_any l[k] m[k] _ ).mono ?_
          rintro e w1 ⟨rfl, hb1⟩
          have hb2 : Below w.heap.size w w1 := Below.trans hbel.drew (hb1.mono hbel.size)
          go_wp2
          go_ret
          exact ⟨ret_bool (by simp [Hfin.out]), hb2⟩
      · have hkl : k = l.length := by omega
        have Hfin := Lib.hid (eq_of_take Hlen.out (by have := HT.out; rw [hkl] at this; exact this))
        go_wp2
        go_ret
        exact ⟨ret_bool (by simp [Hfin.out]), hbel⟩
  · have hne0 : ((l.length : Int) != (m.length : Int)) = true := by simp; omega
    have Hfin := Lib.hid (show l ≠ m from fun h => hlen (by rw [h]))
    clear hlen
    go_enter Try.func70, Try.ntmps70
    go_wp2
    go_ret
    exact ⟨ret_bool (by simp [Hfin.out]), Below.refl _ _⟩
theorem szStepS_any (v : Value) (l : List StepD) (b : Int) (w : World) (h : stepsV w v l) (hb : 0 ≤ b ∧ b ≤ 1048576) :
    Calls Try.prog 66 #[v, .int .i64 b] w fun e w' => e = .returned (.int .i64 (left l.length b)) ∧ w = w' := by
  obtain ⟨a, cap, rfl⟩ := slW.form h
  have hla := slW.le_max h
  rcases left_cases l.length b hb.1 with ⟨h0, h1⟩ | ⟨h0, h1⟩
  all_goals
    have H1 := Lib.hid h1
    have h2 := left_sub l.length b hb.1
    go_enter Try.func66, Try.ntmps66
    go_wp2
    go_ret
    exact ⟨ret_int (by have := H1.out; omega), rfl⟩
def markStepD (k : Int) (x : StepD) : StepD := { atom := k, meth := k + 1 }
def cntStep (x : StepD) : Nat := 1 + 1
end Go.Proofs.Ytjjkfhjkfoikbaa
