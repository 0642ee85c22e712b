/- The laws' helpers at Step and at slices of it: size, copy, comparison, marks, marks held. Conditions: the sizes that the laws themselves ask. -/
import Derived.Test.YtpdmdfkcaabnaaaGreatHBase
import Derived.StillTailTactics
namespace Go.Proofs.YtpdmdfkcaabnaaaGreat
open Go.RowKit
set_option linter.unusedVariables false
set_option linter.unusedSimpArgs false
instance : DecidableEq StepD := fun a b => decidable_of_iff (a.atom = b.atom ∧ a.meth = b.meth) (by cases a; cases b; simp)
instance : Inhabited StepD := ⟨⟨0, 0⟩⟩
def bulkStep (x : StepD) : Nat := 0
set_option maxHeartbeats 800000 in
theorem eqStep_any (x y : StepD) (w : World)  :
    Calls Tryz.prog 30 #[.agg #[.int .i64 x.atom, .int .i64 x.meth], .agg #[.int .i64 y.atom, .int .i64 y.meth]] w fun e w' => e = .returned (.bool (decide (x = y))) ∧ Below w.heap.size w w' := by
  have hb0 : ∀ o1 o2 : Obj, Below w.heap.size w ((w.alloc o1).alloc o2) := fun o1 o2 => ((Below.refl _ _).alloc (Nat.le_refl _) _).alloc (by simp) _
  by_cases eatom : x.atom = y.atom
  case neg =>
    have tatom : (x.atom != y.atom) = true := by simp [eatom]
    have Hfin := Lib.hid (show decide (x = y) = false from decide_eq_false (fun h => eatom (by rw [h])))
    clear eatom
    go_enter Tryz.func30, Tryz.ntmps30
    go_wp2
    go_ret
    exact ⟨ret_bool (by rw [Hfin.out]), hb0 _ _⟩
  by_cases emeth : x.meth = y.meth
  case neg =>
    have tatom : (x.atom != y.atom) = false := by simp [eatom]
    have tmeth : (x.meth != y.meth) = true := by simp [emeth]
    have Hfin := Lib.hid (show decide (x = y) = false from decide_eq_false (fun h => emeth (by rw [h])))
    clear eatom
    clear emeth
    go_enter Tryz.func30, Tryz.ntmps30
    go_wp2
    go_ret
    exact ⟨ret_bool (by rw [Hfin.out]), hb0 _ _⟩
  have tatom : (x.atom != y.atom) = false := by simp [eatom]
  have tmeth : (x.meth != y.meth) = false := by simp [emeth]
  have Hfin := Lib.hid (show decide (x = y) = true from decide_eq_true (by cases x; cases y; simp_all))
  clear eatom
  clear emeth
  go_enter Tryz.func30, Tryz.ntmps30
  go_wp2
  go_ret
  exact ⟨ret_bool (by rw [Hfin.out]), hb0 _ _⟩
theorem infoStepS : (Tryz.prog.info? 65).map (fun i => (i.zero, i.size, i.bytes)) = some (some (.agg #[.int .i64 0, .int .i64 0]), 2, 16) := by kernel_rfl
theorem slStepS : SlT Tryz.prog 29 65 (.agg #[.int .i64 0, .int .i64 0]) 2 16 := slT_of Tryz.underlying29 infoStepS rfl (by decide)
def bulkStepS (l : List StepD) : Nat := l.length + (l.map fun x => bulkStep x).sum
set_option maxRecDepth 100000 in
set_option maxHeartbeats 800000 in
theorem eqStepS_any (va vb : Value) (l m : List StepD) (fa fb : List Nat) (w : World) (ha : steps w va l fa) (hb : steps w vb m fb) :
    Calls Tryz.prog 11 #[va, vb] w fun e w' => e = .returned (.bool (decide (l = m))) ∧ Below w.heap.size w w' := by
  obtain ⟨a, cap, rfl⟩ := slR.form ha
  obtain ⟨b, cap', rfl⟩ := slR.form hb
  have hla := slR.le_max ha
  by_cases hlen : l.length = m.length
  · have Hlen := Lib.hid hlen
    have hle : m.length ≤ l.length := by omega
    have hge : l.length ≤ m.length := by omega
    have hne0 : ((l.length : Int) != (m.length : Int)) = false := by simp [hlen]
    clear hlen
    go_enter Tryz.func11, Tryz.ntmps11
    go_wp2
    go_loopw [5] (fun i wr => ∃ k : Nat, i = .int .i64 k ∧ k ≤ l.length ∧ Hid (l.take k = m.take k) ∧ Below w.heap.size w wr) (fun i _ => l.length - (intOf i).toNat)
    case atStart => exact ⟨0, rfl, Nat.zero_le _, Lib.hid (by simp), Below.refl _ _⟩
    case round =>
      obtain ⟨k, rfl, hk, HT, hbel⟩ := hrel
      by_cases hlt : k < l.length
      · obtain ⟨g, c, fi, rfl, ⟨rfl, pf, piatom, pimeth⟩, _, hc, _, _, _⟩ := slR.at (ha.below' hbel) k hlt
        obtain ⟨g', c', fi', rfl, ⟨rfl, qf, qiatom, qimeth⟩, _, hc', _, _, _⟩ := slR.at (hb.below' hbel) k (by omega)
        have hp0 : wr.cell? ⟨g, k * 2, none⟩ = _ := hc 0 _ rfl
        have hq0 : wr.cell? ⟨g', k * 2, none⟩ = _ := hc' 0 _ rfl
        have hp1 : wr.cell? ⟨g, k * 2 + 1, none⟩ = _ := hc 1 _ rfl
        have hq1 : wr.cell? ⟨g', k * 2 + 1, none⟩ = _ := hc' 1 _ rfl
        clear hc hc'
        have hkm : (k : Int) < (m.length : Int) := by omega
        have hkl : (k : Int) < (l.length : Int) := by omega
        by_cases he : l[k] = m[k]
        · have HS := Lib.hid (take_eq_step hlt (by omega) HT.out he)
          have hne : decide (l[k] = m[k]) = true := by simp [he]
          clear he
          go_wp2
          have Hla := Lib.hid hla; clear hla
          refine wp_region_still_tail 8 (by kernel_rfl) (by kernel_rfl) ?_
          change wpStill _ _ (World.drew _) _ _ _
          simp only [List.take_succ_cons, List.take_zero, List.drop_succ_cons, List.drop_zero]
          iterate 8 still_step
          refine wpStill_nil ?_
          have hla := Hla.out
          change wpList _ _ _ _ _ wr.drew
          go_wp2_with fail
          refine (eqStep_any l[k] m[k] _ ).mono ?_
          rintro e w1 ⟨rfl, hb1⟩
          have hb2 : Below w.heap.size w w1 := Below.trans hbel.drew (hb1.mono hbel.size)
          go_wp2
          go_roundw
          case rel => exact ⟨k + 1, by go_num, by omega, HS, hb2⟩
          case measure => simp [intOf]; omega
        · have Hfin := Lib.hid (ne_of_get hlt (by omega) he)
          have hne : decide (l[k] = m[k]) = false := by simp [he]
          clear he
          go_wp2
          have Hla := Lib.hid hla; clear hla
          refine wp_region_still_tail 8 (by kernel_rfl) (by kernel_rfl) ?_
          change wpStill _ _ (World.drew _) _ _ _
          simp only [List.take_succ_cons, List.take_zero, List.drop_succ_cons, List.drop_zero]
          iterate 8 still_step
          refine wpStill_nil ?_
          have hla := Hla.out
          change wpList _ _ _ _ _ wr.drew
          go_wp2_with fail
          refine (eqStep_any l[k] m[k] _ ).mono ?_
          rintro e w1 ⟨rfl, hb1⟩
          have hb2 : Below w.heap.size w w1 := Below.trans hbel.drew (hb1.mono hbel.size)
          go_wp2
          go_ret
          exact ⟨ret_bool (by simp [Hfin.out]), hb2⟩
      · have hkl : k = l.length := by omega
        have Hfin := Lib.hid (eq_of_take Hlen.out (by have := HT.out; rw [hkl] at this; exact this))
        go_wp2
        go_ret
        exact ⟨ret_bool (by simp [Hfin.out]), hbel⟩
  · have hne0 : ((l.length : Int) != (m.length : Int)) = true := by simp; omega
    have Hfin := Lib.hid (show l ≠ m from fun h => hlen (by rw [h]))
    clear hlen
    go_enter Tryz.func11, Tryz.ntmps11
    go_wp2
    go_ret
    exact ⟨ret_bool (by simp [Hfin.out]), Below.refl _ _⟩
def markStepD (k : Int) (x : StepD) : StepD := { atom := k, meth := k + 1 }
def cntStep (x : StepD) : Nat := 1 + 1
set_option maxRecDepth 100000 in
set_option maxHeartbeats 1600000 in
theorem markStepS_any (v : Value) (l : List StepD) (f : List Nat) (k0 : Int) (w : World) (h : steps w v l f) (hnd : f.Nodup) (hk0 : 0 ≤ k0) (hk1 : k0 + ((l.map cntStep).sum : Nat) ≤ 1000000000) :
    Calls Tryz.prog 18 #[v, .int .i64 k0] w fun e w' => e = .returned (.int .i64 (k0 + ((l.map cntStep).sum : Nat))) ∧ steps w' v (markL markStepD cntStep k0 l) f ∧ Wrote f w w' := by
  obtain ⟨a, cap, rfl⟩ := slR.form h
  have hla := slR.le_max h
  go_enter Tryz.func18, Tryz.ntmps18
  go_wp2
  go_loopw [1, 5] (fun x i wr => ∃ j m : Nat, i = .int .i64 j ∧ j ≤ l.length ∧ x = .int .i64 (k0 + m) ∧ Hid (((l.map cntStep).take j).sum = m) ∧ steps wr (.slice a l.length cap) (markL markStepD cntStep k0 (l.take j) ++ l.drop j) f ∧ Wrote f w wr) (fun _ i _ => l.length - (intOf i).toNat)
  case atStart => exact ⟨0, 0, rfl, Nat.zero_le _, by simp, Lib.hid (by simp), by simpa [markL] using h, Wrote.refl _ _⟩
  case round =>
    obtain ⟨j, m, rfl, hj, rfl, HM, hr, hwr⟩ := hrel
    by_cases hlt : j < l.length
    · have hjl : j < (markL markStepD cntStep k0 (l.take j) ++ l.drop j).length := by simp [markL_length]; omega
      have hle : m + cntStep l[j] ≤ (l.map cntStep).sum := by have := sum_take_le (l.map cntStep) j (by simpa using hlt) m HM.out; simpa using this
      have hcnt : cntStep l[j] = 1 + 1 := rfl
      have HS := Lib.hid (markL_step (mk := markStepD) (cnt := cntStep) k0 l j hlt m HM.out)
      have HN := Lib.hid (sum_take_step (l.map cntStep) j (by simpa using hlt) m HM.out)
      obtain ⟨g, c, fi, rfl, ho, hR⟩ := slR.open good_step hr hnd hjl
      rw [markL_at k0 l j hlt hjl] at hR
      obtain ⟨rfl, hfi, iatom, imeth⟩ := hR
      have hmem := ho.mem
      clear hr h
      have hc0_0 : wr.cell? ⟨g, j * 2, none⟩ = _ := ho.cell (by omega) 0 _ rfl
      have hz0_0 := ho.frozen (by omega) (j * 2)
      have hc0_1 : wr.cell? ⟨g, j * 2 + 1, none⟩ = _ := ho.cell (by omega) 1 _ rfl
      have hz0_1 := ho.frozen (by omega) (j * 2 + 1)
      have ho0 := ho.store 0 (by decide) (.int .i64 (k0 + (m : Int)))
      have ho1 := ho0.store 1 (by decide) (.int .i64 (k0 + (m : Int) + 1))
      have hs := ho1.shut (d := markStepD (k0 + (m : Int)) l[j]) (by exact ⟨rfl, hfi, (by show I64 (k0 + (m : Int)); unfold I64; omega), (by show I64 (k0 + (m : Int) + 1); unfold I64; omega)⟩)
      rw [HS.out] at hs
      have hwr0 := Wrote.setCell hwr (p := ⟨g, j * 2, none⟩) hmem.1 (.int .i64 (k0 + (m : Int)))
      have hwr1 := Wrote.setCell hwr0 (p := ⟨g, j * 2 + 1, none⟩) hmem.1 (.int .i64 (k0 + (m : Int) + 1))
      clear hmem ho
      go_wp2
      go_roundw
      case rel => exact ⟨j + 1, m + cntStep l[j], by go_num, by omega, by rw [hcnt]; go_num, Lib.hid (by have := HN.out; simpa using this), hs, hwr1⟩
      case measure => simp [intOf]; omega
    · have hkl : j = l.length := by omega
      have HM2 := Lib.hid (show (l.map cntStep).sum = m by have := HM.out; rw [hkl, List.take_of_length_le (by simp)] at this; exact this)
      have hr' : steps wr (.slice a l.length cap) (markL markStepD cntStep k0 l) f := by rw [hkl] at hr; simpa using hr
      subst hkl
      clear hr
      go_wp2
      go_ret
      exact ⟨ret_int (by rw [HM2.out]), hr', hwr⟩
set_option maxRecDepth 100000 in
set_option maxHeartbeats 1600000 in
theorem heldStepS_any (v : Value) (l : List StepD) (f : List Nat) (k0 : Int) (w : World) (h : steps w v (markL markStepD cntStep k0 l) f) (hk0 : 0 ≤ k0) (hk1 : k0 + ((l.map cntStep).sum : Nat) ≤ 1000000000) :
    Calls Tryz.prog 19 #[v, .int .i64 k0] w fun e w' => e = .returned (.int .i64 (k0 + ((l.map cntStep).sum : Nat))) ∧ Below w.heap.size w w' := by
  obtain ⟨a, cap, hv⟩ := slR.form h
  have hla := slR.le_max h
  rw [markL_length] at hv hla
  subst hv
  go_enter Tryz.func19, Tryz.ntmps19
  go_wp2
  go_loopw [1, 5] (fun x i wr => ∃ j m : Nat, i = .int .i64 j ∧ j ≤ l.length ∧ x = .int .i64 (k0 + m) ∧ Hid (((l.map cntStep).take j).sum = m) ∧ Below w.heap.size w wr) (fun _ i _ => l.length - (intOf i).toNat)
  case atStart => exact ⟨0, 0, rfl, Nat.zero_le _, by simp, Lib.hid (by simp), Below.refl _ _⟩
  case round =>
    obtain ⟨j, m, rfl, hj, rfl, HM, hbel⟩ := hrel
    by_cases hlt : j < l.length
    · have hjl : j < (markL markStepD cntStep k0 l).length := by rw [markL_length]; exact hlt
      have hle : m + cntStep l[j] ≤ (l.map cntStep).sum := by have := sum_take_le (l.map cntStep) j (by simpa using hlt) m HM.out; simpa using this
      have hcnt : cntStep l[j] = 1 + 1 := rfl
      have HN := Lib.hid (sum_take_step (l.map cntStep) j (by simpa using hlt) m HM.out)
      obtain ⟨g, c, fi, rfl, hR, _, hc, _, _, _⟩ := slR.at (h.below' hbel) j hjl
      rw [markL_get k0 l j hlt m HM.out hjl] at hR
      obtain ⟨rfl, hfi, iatom, imeth⟩ := hR
      have hc0 : wr.cell? ⟨g, j * 2, none⟩ = some (.int .i64 (k0 + (m : Int))) := hc 0 _ rfl
      have hc1 : wr.cell? ⟨g, j * 2 + 1, none⟩ = some (.int .i64 (k0 + (m : Int) + 1)) := hc 1 _ rfl
      have hne0 : ((k0 + (m : Int)) != (k0 + (m : Int))) = false := by simp
      have hne1 : ((k0 + (m : Int) + 1) != (k0 + (m : Int) + 1)) = false := by simp
      clear hc
      go_wp2
      go_roundw
      case rel => exact ⟨j + 1, m + cntStep l[j], by go_num, by omega, by rw [hcnt]; go_num, Lib.hid (by have := HN.out; simpa using this), hbel⟩
      case measure => simp [intOf]; omega
    · have hkl : j = l.length := by omega
      have HM2 := Lib.hid (show (l.map cntStep).sum = m by have := HM.out; rw [hkl, List.take_of_length_le (by simp)] at this; exact this)
      subst hkl
      go_wp2
      go_ret
      exact ⟨ret_int (by rw [HM2.out]), hbel⟩
end Go.Proofs.YtpdmdfkcaabnaaaGreat
