/- SameFacts, of the program and of the reference. No condition. -/
import Derived.Test.YtapapnaljjnhnaaGreatDoorIdxS
import Derived.Test.YtapapnaljjnhnaaGreatDoorCompare
import Derived.Test.YtapapnaljjnhnaaGreatDoorCmpFact
namespace Go.Proofs.YtapapnaljjnhnaaGreatDoor
open Go.RowKit
set_option linter.unusedVariables false
set_option linter.unusedSimpArgs false
set_option maxRecDepth 100000 in
set_option maxHeartbeats 800000 in
theorem specSameFacts_any (va vb : Value) (l m : List FactD) (fa fb : List Nat) (w : World) (ha : facts w va l fa) (hb : facts w vb m fb) :
    Calls Tryz.prog 10 #[va, vb] w fun e w' => e = .returned (.bool (decide (l = m))) ∧ Below w.heap.size w w' := by
  obtain ⟨a, cap, rfl⟩ := slR.form ha
  obtain ⟨b, cap', rfl⟩ := slR.form hb
  have hla := slR.le_max ha
  by_cases hlen : l.length = m.length
  · have Hlen := Lib.hid hlen
    have hle : m.length ≤ l.length := by omega
    have hge : l.length ≤ m.length := by omega
    have hne0 : ((l.length : Int) != (m.length : Int)) = false := by simp [hlen]
    clear hlen
    go_enter Tryz.func10, Tryz.ntmps10
    go_wp2
    go_loopw [5] (fun i wr => ∃ k : Nat, i = .int .i64 k ∧ k ≤ l.length ∧ Hid (l.take k = m.take k) ∧ Below w.heap.size w wr) (fun i _ => l.length - (intOf i).toNat)
    case atStart => exact ⟨0, rfl, Nat.zero_le _, Lib.hid (by simp), Below.refl _ _⟩
    case round =>
      obtain ⟨k, rfl, hk, HT, hbel⟩ := hrel
      by_cases hlt : k < l.length
      · obtain ⟨g, c, fi, rfl, ⟨pvvals, rfl, pirel, hpvals⟩, _, hc, _, _, _⟩ := slR.at (ha.below' hbel) k hlt
        obtain ⟨g', c', fi', rfl, ⟨qvvals, rfl, qirel, hqvals⟩, _, hc', _, _, _⟩ := slR.at (hb.below' hbel) k (by omega)
        have hpc0 : wr.cell? ⟨g, k * 2, none⟩ = _ := hc 0 _ rfl
        have hqc0 : wr.cell? ⟨g', k * 2, none⟩ = _ := hc' 0 _ rfl
        have hpc1 : wr.cell? ⟨g, k * 2 + 1, none⟩ = _ := hc 1 _ rfl
        have hqc1 : wr.cell? ⟨g', k * 2 + 1, none⟩ = _ := hc' 1 _ rfl
        clear hc hc'
        have hkm : (k : Int) < (m.length : Int) := by omega
        have hkl : (k : Int) < (l.length : Int) := by omega
        by_cases he : l[k] = m[k]
        · have HS := Lib.hid (take_eq_step hlt (by omega) HT.out he)
          have hne : ((cmpFact l[k] m[k]) != (0 : Int)) = false := by simp [cmpFact_zero, he]
          clear he
          go_wp2
          have Hla := Lib.hid hla; clear hla
          refine wp_region_still_tail 8 (by kernel_rfl) (by kernel_rfl) ?_
          change wpStill _ _ (World.drew _) _ _ _
          simp only [List.take_succ_cons, List.take_zero, List.drop_succ_cons, List.drop_zero]
          iterate 8 still_step
          refine wpStill_nil ?_
          have hla := Hla.out
          change wpList _ _ _ _ _ wr.drew
          go_wp2_with fail
          refine (specCompareFacts_any l[k] m[k] _ _ _ _ _ (hpvals.below' (Below.drew (Below.refl _ _))) (hqvals.below' (Below.drew (Below.refl _ _)))).mono ?_
          rintro e w1 ⟨rfl, hb1⟩
          have hb2 : Below w.heap.size w w1 := Below.trans hbel.drew (hb1.mono hbel.size)
          go_wp2
          go_roundw
          case rel => exact ⟨k + 1, by go_num, by omega, HS, hb2⟩
          case measure => simp [intOf]; omega
        · have Hfin := Lib.hid (ne_of_get hlt (by omega) he)
          have hne : ((cmpFact l[k] m[k]) != (0 : Int)) = true := by simp [cmpFact_zero, he]
          clear he
          go_wp2
          have Hla := Lib.hid hla; clear hla
          refine wp_region_still_tail 8 (by kernel_rfl) (by kernel_rfl) ?_
          change wpStill _ _ (World.drew _) _ _ _
          simp only [List.take_succ_cons, List.take_zero, List.drop_succ_cons, List.drop_zero]
          iterate 8 still_step
          refine wpStill_nil ?_
          have hla := Hla.out
          change wpList _ _ _ _ _ wr.drew
          go_wp2_with fail
          refine (specCompareFacts_any l[k] m[k] _ _ _ _ _ (hpvals.below' (Below.drew (Below.refl _ _))) (hqvals.below' (Below.drew (Below.refl _ _)))).mono ?_
          rintro e w1 ⟨rfl, hb1⟩
          have hb2 : Below w.heap.size w w1 := Below.trans hbel.drew (hb1.mono hbel.size)
          go_wp2
          go_ret
          exact ⟨ret_bool (by simp [Hfin.out]), hb2⟩
      · have hkl : k = l.length := by omega
        have Hfin := Lib.hid (eq_of_take Hlen.out (by have := HT.out; rw [hkl] at this; exact this))
        go_wp2
        go_ret
        exact ⟨ret_bool (by simp [Hfin.out]), hbel⟩
  · have hne0 : ((l.length : Int) != (m.length : Int)) = true := by simp; omega
    have Hfin := Lib.hid (show l ≠ m from fun h => hlen (by rw [h]))
    clear hlen
    go_enter Tryz.func10, Tryz.ntmps10
    go_wp2
    go_ret
    exact ⟨ret_bool (by simp [Hfin.out]), Below.refl _ _⟩
theorem sameFacts1_any (x y : FactD) (vx vy : Value) (fx fy : List Nat) (w : World) (hx : ints w vx x.vals fx) (hy : ints w vy y.vals fy) :
    Calls Tryz.prog 150 #[.agg #[.int .i64 x.rel, vx], .agg #[.int .i64 y.rel, vy]] w fun e w' => e = .returned (.bool (cmpFact x y == 0)) ∧ Below w.heap.size w w' := by
  obtain ⟨a, cap, rfl⟩ := slR.form hx
  obtain ⟨b, cap', rfl⟩ := slR.form hy
  go_enter Tryz.func150, Tryz.ntmps150
  go_wp2_with fail
  refine (implCompareFacts_any x y _ _ fx fy _ ((hx.al _).al _) ((hy.al _).al _)).mono ?_
  rintro e w1 ⟨rfl, hb1⟩
  go_wp2
  go_ret
  exact ⟨ret_bool rfl, bt (ba (ba (Below.refl _ _))) hb1⟩
theorem cmpFact_dec (x y : FactD) : (cmpFact x y == 0) = decide (x = y) := by
  rw [Bool.eq_iff_iff]; simp [cmpFact_zero]
theorem implSameFacts_any (va vb : Value) (l m : List FactD) (fa fb : List Nat) (w : World) (ha : facts w va l fa) (hb : facts w vb m fb) :
    Calls Tryz.prog 76 #[va, vb] w fun e w' => e = .returned (.bool (decide (l = m))) ∧ Below w.heap.size w w' := by
  obtain ⟨a, cap, rfl⟩ := slR.form ha
  obtain ⟨b, cap', rfl⟩ := slR.form hb
  have hP := plain_of Tryz.func150 (by kernel_rfl) (by kernel_rfl)
  have Hf := Lib.hid (allEq_eq cmpFact_dec l m)
  go_enter Tryz.func76, Tryz.ntmps76
  go_wp2_with fail
  refine (equalFuncFact_any _ hP #[] (fun x y vx vy => #[.agg #[.int .i64 x.rel, vx], .agg #[.int .i64 y.rel, vy]]) (fun _ _ _ _ => rfl) (fun x y => cmpFact x y == 0) _ _ l m fa fb _ ha hb (fun i hi hj w' vx vy fx fy hb hx hy => sameFacts1_any _ _ _ _ _ _ _ hx hy)).mono ?_
  rintro e w1 ⟨rfl, hb1⟩
  go_wp2
  go_ret
  exact ⟨ret_bool (by rw [Hf.out]), hb1⟩
end Go.Proofs.YtapapnaljjnhnaaGreatDoor
