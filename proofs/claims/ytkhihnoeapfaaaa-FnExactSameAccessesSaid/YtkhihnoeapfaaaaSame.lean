/- SameAccesses, SameTuples, SameSteps, of the program and of the reference. No condition. -/
import Derived.Test.YtkhihnoeapfaaaaIdxS
import Derived.Test.YtkhihnoeapfaaaaCompare
namespace Go.Proofs.Ytkhihnoeapfaaaa
open Go.RowKit
set_option linter.unusedVariables false
set_option linter.unusedSimpArgs false
set_option maxRecDepth 100000 in
set_option maxHeartbeats 800000 in
theorem l5Same_any (x y : AccD) (vx vy : Value) (fx fy : List Nat) (w : World) (hx : ints w vx x.vals fx) (hy : ints w vy y.vals fy) :
    Calls Try.prog 170 #[.agg #[.int .i64 x.meth, vx], .agg #[.int .i64 y.meth, vy]] w fun e w' => e = .returned (.bool (decide (x = y))) ∧ Below w.heap.size w w' := by
  obtain ⟨rx, s⟩ := x
  obtain ⟨ry, t⟩ := y
  obtain ⟨a, cap, rfl⟩ := slR.form hx
  obtain ⟨b, cap', rfl⟩ := slR.form hy
  by_cases h1 : rx = ry
  · have Hf := Lib.hid (show decide ((⟨rx, s⟩ : AccD) = ⟨ry, t⟩) = decide (s = t) by simp [h1])
    have Hf2 := Lib.hid (show (decide (rx = ry) && decide (s = t)) = decide (s = t) by simp [h1])
    have hd : (rx == ry) = true := by simp [h1]
    clear h1
    go_enter Try.func170, Try.ntmps170
    go_wp2_with fail
    refine (l2Ints_any _ _ s t fx fy _ ((hx.al _).al _) ((hy.al _).al _)).mono ?_
    rintro e w1 ⟨rfl, hq⟩
    go_wp2
    go_ret
    exact ⟨ret_bool (by first | rw [Hf.out] | rw [Hf2.out]), bqt (ba (ba (Below.refl _ _))) hq⟩
  · have Hf := Lib.hid (show decide ((⟨rx, s⟩ : AccD) = ⟨ry, t⟩) = false by simp [h1])
    have Hf2 := Lib.hid (show (decide (rx = ry) && decide (s = t)) = false by simp [h1])
    have hd : (rx == ry) = false := by simp [h1]
    clear h1
    go_enter Try.func170, Try.ntmps170
    go_wp2
    go_ret
    exact ⟨ret_bool (by first | rw [Hf.out] | rw [Hf2.out]), ba (ba (Below.refl _ _))⟩
set_option maxRecDepth 100000 in
set_option maxHeartbeats 800000 in
theorem sameAccess_any (x y : AccD) (vx vy : Value) (fx fy : List Nat) (w : World) (hx : ints w vx x.vals fx) (hy : ints w vy y.vals fy) :
    Calls Try.prog 172 #[.agg #[.int .i64 x.meth, vx], .agg #[.int .i64 y.meth, vy]] w fun e w' => e = .returned (.bool (decide (x = y))) ∧ Below w.heap.size w w' := by
  obtain ⟨rx, s⟩ := x
  obtain ⟨ry, t⟩ := y
  obtain ⟨a, cap, rfl⟩ := slR.form hx
  obtain ⟨b, cap', rfl⟩ := slR.form hy
  by_cases h1 : rx = ry
  · have Hf := Lib.hid (show decide ((⟨rx, s⟩ : AccD) = ⟨ry, t⟩) = decide (s = t) by simp [h1])
    have Hf2 := Lib.hid (show (decide (rx = ry) && decide (s = t)) = decide (s = t) by simp [h1])
    have hd : (rx == ry) = true := by simp [h1]
    clear h1
    go_enter Try.func172, Try.ntmps172
    go_wp2_with fail
    refine (slicesEqual_any _ _ s t fx fy _ ((hx.al _).al _) ((hy.al _).al _)).mono ?_
    rintro e w1 ⟨rfl, hq⟩
    go_wp2
    go_ret
    exact ⟨ret_bool (by first | rw [Hf.out] | rw [Hf2.out]), bqt (ba (ba (Below.refl _ _))) hq⟩
  · have Hf := Lib.hid (show decide ((⟨rx, s⟩ : AccD) = ⟨ry, t⟩) = false by simp [h1])
    have Hf2 := Lib.hid (show (decide (rx = ry) && decide (s = t)) = false by simp [h1])
    have hd : (rx == ry) = false := by simp [h1]
    clear h1
    go_enter Try.func172, Try.ntmps172
    go_wp2
    go_ret
    exact ⟨ret_bool (by first | rw [Hf.out] | rw [Hf2.out]), ba (ba (Below.refl _ _))⟩
set_option maxRecDepth 100000 in
set_option maxHeartbeats 800000 in
theorem sameAtom_any (x y : AtomD) (vx vy : Value) (fx fy : List Nat) (w : World) (hx : ints w vx x.terms fx) (hy : ints w vy y.terms fy) :
    Calls Try.prog 181 #[.agg #[.int .i64 x.rel, vx], .agg #[.int .i64 y.rel, vy]] w fun e w' => e = .returned (.bool (decide (x = y))) ∧ Below w.heap.size w w' := by
  obtain ⟨rx, s⟩ := x
  obtain ⟨ry, t⟩ := y
  obtain ⟨a, cap, rfl⟩ := slR.form hx
  obtain ⟨b, cap', rfl⟩ := slR.form hy
  by_cases h1 : rx = ry
  · have Hf := Lib.hid (show decide ((⟨rx, s⟩ : AtomD) = ⟨ry, t⟩) = decide (s = t) by simp [h1])
    have Hf2 := Lib.hid (show (decide (rx = ry) && decide (s = t)) = decide (s = t) by simp [h1])
    have hd : (rx == ry) = true := by simp [h1]
    clear h1
    go_enter Try.func181, Try.ntmps181
    go_wp2_with fail
    refine (slicesEqual_any _ _ s t fx fy _ ((hx.al _).al _) ((hy.al _).al _)).mono ?_
    rintro e w1 ⟨rfl, hq⟩
    go_wp2
    go_ret
    exact ⟨ret_bool (by first | rw [Hf.out] | rw [Hf2.out]), bqt (ba (ba (Below.refl _ _))) hq⟩
  · have Hf := Lib.hid (show decide ((⟨rx, s⟩ : AtomD) = ⟨ry, t⟩) = false by simp [h1])
    have Hf2 := Lib.hid (show (decide (rx = ry) && decide (s = t)) = false by simp [h1])
    have hd : (rx == ry) = false := by simp [h1]
    clear h1
    go_enter Try.func181, Try.ntmps181
    go_wp2
    go_ret
    exact ⟨ret_bool (by first | rw [Hf.out] | rw [Hf2.out]), ba (ba (Below.refl _ _))⟩
set_option maxRecDepth 100000 in
set_option maxHeartbeats 800000 in
theorem specSameAccesses_any (va vb : Value) (l m : List AccD) (fa fb : List Nat) (w : World) (ha : accs w va l fa) (hb : accs w vb m fb) :
    Calls Try.prog 75 #[va, vb] w fun e w' => e = .returned (.bool (decide (l = m))) ∧ Below w.heap.size w w' := by
  obtain ⟨a, cap, rfl⟩ := slR.form ha
  obtain ⟨b, cap', rfl⟩ := slR.form hb
  have hla := slR.le_max ha
  by_cases hlen : l.length = m.length
  · have Hlen := Lib.hid hlen
    have hle : m.length ≤ l.length := by omega
    have hge : l.length ≤ m.length := by omega
    have hne0 : ((l.length : Int) != (m.length : Int)) = false := by simp [hlen]
    clear hlen
    go_enter Try.func75, Try.ntmps75
    go_wp2
    go_loopw [5] (fun i wr => ∃ k : Nat, i = .int .i64 k ∧ k ≤ l.length ∧ Hid (l.take k = m.take k) ∧ Below w.heap.size w wr) (fun i _ => l.length - (intOf i).toNat)
    case atStart => exact ⟨0, rfl, Nat.zero_le _, Lib.hid (by simp), Below.refl _ _⟩
    case round =>
      obtain ⟨k, rfl, hk, HT, hbel⟩ := hrel
      by_cases hlt : k < l.length
      · obtain ⟨g, c, fi, rfl, ⟨pvvals, rfl, pimeth, hpvals⟩, _, hc, _, _, _⟩ := slR.at (ha.below' hbel) k hlt
        obtain ⟨g', c', fi', rfl, ⟨qvvals, rfl, qimeth, hqvals⟩, _, hc', _, _, _⟩ := slR.at (hb.below' hbel) k (by omega)
        have hpc0 : wr.cell? ⟨g, k * 2, none⟩ = _ := hc 0 _ rfl
        have hqc0 : wr.cell? ⟨g', k * 2, none⟩ = _ := hc' 0 _ rfl
        have hpc1 : wr.cell? ⟨g, k * 2 + 1, none⟩ = _ := hc 1 _ rfl
        have hqc1 : wr.cell? ⟨g', k * 2 + 1, none⟩ = _ := hc' 1 _ rfl
        clear hc hc'
        have hkm : (k : Int) < (m.length : Int) := by omega
        have hkl : (k : Int) < (l.length : Int) := by omega
        by_cases he : l[k] = m[k]
        · have HS := Lib.hid (take_eq_step hlt (by omega) HT.out he)
          have hne : decide (l[k] = m[k]) = true := by simp [he]
          clear he
          go_wp2
          have Hla := Lib.hid hla; clear hla
          refine wp_region_still_tail 8 (by kernel_rfl) (by kernel_rfl) ?_
          change wpStill _ _ (World.drew _) _ _ _
          simp only [List.take_succ_cons, List.take_zero, List.drop_succ_cons, List.drop_zero]
          iterate 8 still_step
          refine wpStill_nil ?_
          have hla := Hla.out
          change wpList _ _ _ _ _ wr.drew
          go_wp2_with fail
          refine (l5Same_any l[k] m[k] _ _ _ _ _ (hpvals.below' (Below.drew (Below.refl _ _))) (hqvals.below' (Below.drew (Below.refl _ _)))).mono ?_
          rintro e w1 ⟨rfl, hb1⟩
          have hb2 : Below w.heap.size w w1 := Below.trans hbel.drew (hb1.mono hbel.size)
          go_wp2
          go_roundw
          case rel => exact ⟨k + 1, by go_num, by omega, HS, hb2⟩
          case measure => simp [intOf]; omega
        · have Hfin := Lib.hid (ne_of_get hlt (by omega) he)
          have hne : decide (l[k] = m[k]) = false := by simp [he]
          clear he
          go_wp2
          have Hla := Lib.hid hla; clear hla
          refine wp_region_still_tail 8 (by kernel_rfl) (by kernel_rfl) ?_
          change wpStill _ _ (World.drew _) _ _ _
          simp only [List.take_succ_cons, List.take_zero, List.drop_succ_cons, List.drop_zero]
          iterate 8 still_step
          refine wpStill_nil ?_
          have hla := Hla.out
          change wpList _ _ _ _ _ wr.drew
          go_wp2_with fail
          refine (l5Same_any l[k] m[k] _ _ _ _ _ (hpvals.below' (Below.drew (Below.refl _ _))) (hqvals.below' (Below.drew (Below.refl _ _)))).mono ?_
          rintro e w1 ⟨rfl, hb1⟩
          have hb2 : Below w.heap.size w w1 := Below.trans hbel.drew (hb1.mono hbel.size)
          go_wp2
          go_ret
          exact ⟨ret_bool (by simp [Hfin.out]), hb2⟩
      · have hkl : k = l.length := by omega
        have Hfin := Lib.hid (eq_of_take Hlen.out (by have := HT.out; rw [hkl] at this; exact this))
        go_wp2
        go_ret
        exact ⟨ret_bool (by simp [Hfin.out]), hbel⟩
  · have hne0 : ((l.length : Int) != (m.length : Int)) = true := by simp; omega
    have Hfin := Lib.hid (show l ≠ m from fun h => hlen (by rw [h]))
    clear hlen
    go_enter Try.func75, Try.ntmps75
    go_wp2
    go_ret
    exact ⟨ret_bool (by simp [Hfin.out]), Below.refl _ _⟩
theorem implSameAccesses_any (va vb : Value) (l m : List AccD) (fa fb : List Nat) (w : World) (ha : accs w va l fa) (hb : accs w vb m fb) :
    Calls Try.prog 76 #[va, vb] w fun e w' => e = .returned (.bool (decide (l = m))) ∧ Below w.heap.size w w' := by
  obtain ⟨a, cap, rfl⟩ := slR.form ha
  obtain ⟨b, cap', rfl⟩ := slR.form hb
  have hP := plain_of Try.func172 (by kernel_rfl) (by kernel_rfl)
  have Hf := Lib.hid (allEq_eq (p := fun x y : AccD => decide (x = y)) (fun _ _ => rfl) l m)
  go_enter Try.func76, Try.ntmps76
  go_wp2_with fail
  refine (equalFuncAccess_any _ hP #[] (fun x y vx vy => #[.agg #[.int .i64 x.meth, vx], .agg #[.int .i64 y.meth, vy]]) (fun _ _ _ _ => rfl) (fun x y => decide (x = y)) _ _ l m fa fb _ ha hb (fun i hi hj w' vx vy fx fy hb hx hy => sameAccess_any _ _ _ _ _ _ _ hx hy)).mono ?_
  rintro e w1 ⟨rfl, hb1⟩
  go_wp2
  go_ret
  exact ⟨ret_bool (by first | rw [Hf.out] | rw [Hf2.out]), hb1⟩
theorem below_of_qt {P : Program} {f : FuncId} {args : Array Value} {w : World} {v : Value} (h : Calls P f args w fun e w' => e = .returned v ∧ Qt w w') : Calls P f args w fun e w' => e = .returned v ∧ Below w.heap.size w w' := h.mono fun _ _ ⟨h1, h2⟩ => ⟨h1, h2.below⟩
set_option maxRecDepth 100000 in
set_option maxHeartbeats 800000 in
theorem specSameTuples_any (va vb : Value) (l m : List (List Int)) (fa fb : List Nat) (w : World) (ha : intss w va l fa) (hb : intss w vb m fb) :
    Calls Try.prog 64 #[va, vb] w fun e w' => e = .returned (.bool (decide (l = m))) ∧ Below w.heap.size w w' := by
  obtain ⟨a, cap, rfl⟩ := slR.form ha
  obtain ⟨b, cap', rfl⟩ := slR.form hb
  have hla := slR.le_max ha
  by_cases hlen : l.length = m.length
  · have Hlen := Lib.hid hlen
    have hle : m.length ≤ l.length := by omega
    have hge : l.length ≤ m.length := by omega
    have hne0 : ((l.length : Int) != (m.length : Int)) = false := by simp [hlen]
    clear hlen
    go_enter Try.func64, Try.ntmps64
    go_wp2
    go_loopw [5] (fun i wr => ∃ k : Nat, i = .int .i64 k ∧ k ≤ l.length ∧ Hid (l.take k = m.take k) ∧ Below w.heap.size w wr) (fun i _ => l.length - (intOf i).toNat)
    case atStart => exact ⟨0, rfl, Nat.zero_le _, Lib.hid (by simp), Below.refl _ _⟩
    case round =>
      obtain ⟨k, rfl, hk, HT, hbel⟩ := hrel
      by_cases hlt : k < l.length
      · obtain ⟨g, c, fi, rfl, ⟨pv, rfl, hp⟩, _, hc, _, _, _⟩ := slR.at (ha.below' hbel) k hlt
        obtain ⟨g', c', fi', rfl, ⟨qv, rfl, hq⟩, _, hc', _, _, _⟩ := slR.at (hb.below' hbel) k (by omega)
        have hpc0 : wr.cell? ⟨g, k, none⟩ = some pv := by have := hc 0 _ rfl; simpa using this
        have hqc0 : wr.cell? ⟨g', k, none⟩ = some qv := by have := hc' 0 _ rfl; simpa using this
        clear hc hc'
        have hkm : (k : Int) < (m.length : Int) := by omega
        have hkl : (k : Int) < (l.length : Int) := by omega
        by_cases he : l[k] = m[k]
        · have HS := Lib.hid (take_eq_step hlt (by omega) HT.out he)
          have hne : decide (l[k] = m[k]) = true := by simp [he]
          clear he
          go_wp2
          have Hla := Lib.hid hla; clear hla
          refine wp_region_still_tail 8 (by kernel_rfl) (by kernel_rfl) ?_
          change wpStill _ _ (World.drew _) _ _ _
          simp only [List.take_succ_cons, List.take_zero, List.drop_succ_cons, List.drop_zero]
          iterate 8 still_step
          refine wpStill_nil ?_
          have hla := Hla.out
          change wpList _ _ _ _ _ wr.drew
          go_wp2_with fail
          refine (below_of_qt (l2Ints_any _ _ l[k] m[k] _ _ _ (hp.below' (Below.drew (Below.refl _ _))) (hq.below' (Below.drew (Below.refl _ _))))).mono ?_
          rintro e w1 ⟨rfl, hb1⟩
          have hb2 : Below w.heap.size w w1 := Below.trans hbel.drew (hb1.mono hbel.size)
          go_wp2
          go_roundw
          case rel => exact ⟨k + 1, by go_num, by omega, HS, hb2⟩
          case measure => simp [intOf]; omega
        · have Hfin := Lib.hid (ne_of_get hlt (by omega) he)
          have hne : decide (l[k] = m[k]) = false := by simp [he]
          clear he
          go_wp2
          have Hla := Lib.hid hla; clear hla
          refine wp_region_still_tail 8 (by kernel_rfl) (by kernel_rfl) ?_
          change wpStill _ _ (World.drew _) _ _ _
          simp only [List.take_succ_cons, List.take_zero, List.drop_succ_cons, List.drop_zero]
          iterate 8 still_step
          refine wpStill_nil ?_
          have hla := Hla.out
          change wpList _ _ _ _ _ wr.drew
          go_wp2_with fail
          refine (below_of_qt (l2Ints_any _ _ l[k] m[k] _ _ _ (hp.below' (Below.drew (Below.refl _ _))) (hq.below' (Below.drew (Below.refl _ _))))).mono ?_
          rintro e w1 ⟨rfl, hb1⟩
          have hb2 : Below w.heap.size w w1 := Below.trans hbel.drew (hb1.mono hbel.size)
          go_wp2
          go_ret
          exact ⟨ret_bool (by simp [Hfin.out]), hb2⟩
      · have hkl : k = l.length := by omega
        have Hfin := Lib.hid (eq_of_take Hlen.out (by have := HT.out; rw [hkl] at this; exact this))
        go_wp2
        go_ret
        exact ⟨ret_bool (by simp [Hfin.out]), hbel⟩
  · have hne0 : ((l.length : Int) != (m.length : Int)) = true := by simp; omega
    have Hfin := Lib.hid (show l ≠ m from fun h => hlen (by rw [h]))
    clear hlen
    go_enter Try.func64, Try.ntmps64
    go_wp2
    go_ret
    exact ⟨ret_bool (by simp [Hfin.out]), Below.refl _ _⟩
theorem implSameTuples_any (va vb : Value) (l m : List (List Int)) (fa fb : List Nat) (w : World) (ha : intss w va l fa) (hb : intss w vb m fb) :
    Calls Try.prog 66 #[va, vb] w fun e w' => e = .returned (.bool (decide (l = m))) ∧ Below w.heap.size w w' := by
  obtain ⟨a, cap, rfl⟩ := slR.form ha
  obtain ⟨b, cap', rfl⟩ := slR.form hb
  have hP := plain_of Try.func165 (by kernel_rfl) (by kernel_rfl)
  have Hf := Lib.hid (allEq_eq (p := fun x y : List Int => decide (x = y)) (fun _ _ => rfl) l m)
  go_enter Try.func66, Try.ntmps66
  go_wp2_with fail
  refine (equalFuncInts_any _ hP #[] (fun x y vx vy => #[vx, vy]) (fun _ _ _ _ => rfl) (fun x y => decide (x = y)) _ _ l m fa fb _ ha hb (fun i hi hj w' vx vy fx fy hb hx hy => below_of_qt (slicesEqual_any _ _ _ _ _ _ _ hx hy))).mono ?_
  rintro e w1 ⟨rfl, hb1⟩
  go_wp2
  go_ret
  exact ⟨ret_bool (by first | rw [Hf.out] | rw [Hf2.out]), hb1⟩
theorem eqStep (x y : StepD) (W : World) : (Op.equalIn 10000 154 (.agg #[.int .i64 x.atom, .int .i64 x.meth]) (.agg #[.int .i64 y.atom, .int .i64 y.meth])).run Try.prog W = .ok (decide (x = y)) W := by
  obtain ⟨a, b⟩ := x
  obtain ⟨c, d⟩ := y
  have u3 := Try.underlying3
  have a3 := Try.isAgg3
  have z3 := Try.sizeOf3
  have hS : Try.prog.underlying 154 = some (.struct (Try.prog.fieldsOf 154)) := by kernel_rfl
  have hp : Try.prog.stoodInHeld 154 = false := by kernel_rfl
  rw [show (10000 : Nat) = 9999 + 1 from rfl, run_equalIn_agg W 9999 154 _ _ hS hp]
  simp only [Program.fieldsOf, Try.underlying154]
  go_simp
  by_cases h1 : a = c <;> by_cases h2 : b = d <;> simp [h1, h2]
theorem neqStep (x y : StepD) (W : World) : (binOp .neq 154 (.agg #[.int .i64 x.atom, .int .i64 x.meth]) (.agg #[.int .i64 y.atom, .int .i64 y.meth])).run Try.prog W = .ok (.bool (!decide (x = y))) W := by
  rw [run_neq_struct, eqStep]; rfl
theorem guardStep : Try.prog.eqGuardType Try.prog.depth 154 = false := by kernel_rfl
set_option maxRecDepth 100000 in
set_option maxHeartbeats 800000 in
theorem specSameSteps_any (va vb : Value) (l m : List StepD) (fa fb : List Nat) (w : World) (ha : steps w va l fa) (hb : steps w vb m fb) :
    Calls Try.prog 39 #[va, vb] w fun e w' => e = .returned (.bool (decide (l = m))) ∧ Qt w w' := by
  obtain ⟨a, cap, rfl⟩ := slR.form ha
  obtain ⟨b, cap', rfl⟩ := slR.form hb
  have hla := slR.le_max ha
  by_cases hlen : l.length = m.length
  · have Hlen := Lib.hid hlen
    have hle : m.length ≤ l.length := by omega
    have hge : l.length ≤ m.length := by omega
    have hne0 : ((l.length : Int) != (m.length : Int)) = false := by simp [hlen]
    clear hlen
    go_enter Try.func39, Try.ntmps39
    go_wp2
    go_loopw [5] (fun i wr => ∃ k n : Nat, i = .int .i64 k ∧ k ≤ l.length ∧ Hid (l.take k = m.take k) ∧ wr = w.drewN n) (fun i _ => l.length - (intOf i).toNat)
    case atStart => exact ⟨0, 0, rfl, Nat.zero_le _, Lib.hid (by simp), rfl⟩
    case round =>
      obtain ⟨k, n, rfl, hk, HT, rfl⟩ := hrel
      by_cases hlt : k < l.length
      · obtain ⟨g, c, fi, rfl, ⟨rfl, pf, pi1, pi2⟩, _, hc, _, _, _⟩ := slR.at ha k hlt
        obtain ⟨g', c', fi', rfl, ⟨rfl, qf, qi1, qi2⟩, _, hc', _, _, _⟩ := slR.at hb k (by omega)
        have hp0 : w.cell? ⟨g, k * 2, none⟩ = _ := hc 0 _ rfl
        have hp1 : w.cell? ⟨g, k * 2 + 1, none⟩ = _ := hc 1 _ rfl
        have hq0 : w.cell? ⟨g', k * 2, none⟩ = _ := hc' 0 _ rfl
        have hq1 : w.cell? ⟨g', k * 2 + 1, none⟩ = _ := hc' 1 _ rfl
        clear hc hc'
        have hkm : (k : Int) < (m.length : Int) := by omega
        have hkl : (k : Int) < (l.length : Int) := by omega
        have hnq := fun W => neqStep l[k] m[k] W
        have heq := fun W => eqStep l[k] m[k] W
        have hgd := guardStep
        by_cases he : l[k] = m[k]
        · have HS := Lib.hid (take_eq_step hlt (by omega) HT.out he)
          have hne : decide (l[k] = m[k]) = true := by simp [he]
          clear he
          go_wp2
          go_quiet (fail)
          go_wp2
          go_roundw
          case rel => exact ⟨k + 1, _, by go_num, by omega, HS, rfl⟩
          case measure => simp [intOf]; omega
        · have Hfin := Lib.hid (ne_of_get hlt (by omega) he)
          have hne : decide (l[k] = m[k]) = false := by simp [he]
          clear he
          go_wp2
          go_quiet (fail)
          go_wp2
          go_ret
          exact ⟨ret_bool (by simp [Hfin.out]), by first | exact Qt.dn _ _ | exact (Qt.dn _ _).trans (Qt.dn _ _)⟩
      · have hkl : k = l.length := by omega
        have Hfin := Lib.hid (eq_of_take Hlen.out (by have := HT.out; rw [hkl] at this; exact this))
        go_wp2
        go_ret
        exact ⟨ret_bool (by simp [Hfin.out]), by first | exact Qt.dn _ _ | exact (Qt.dn _ _).trans (Qt.dn _ _)⟩
  · have hne0 : ((l.length : Int) != (m.length : Int)) = true := by simp; omega
    have Hfin := Lib.hid (show l ≠ m from fun h => hlen (by rw [h]))
    clear hlen
    go_enter Try.func39, Try.ntmps39
    go_wp2
    go_ret
    exact ⟨ret_bool (by simp [Hfin.out]), Qt.refl _⟩
set_option maxRecDepth 100000 in
set_option maxHeartbeats 800000 in
theorem stepsEqual_any (va vb : Value) (l m : List StepD) (fa fb : List Nat) (w : World) (ha : steps w va l fa) (hb : steps w vb m fb) :
    Calls Try.prog 152 #[va, vb] w fun e w' => e = .returned (.bool (decide (l = m))) ∧ Qt w w' := by
  obtain ⟨a, cap, rfl⟩ := slR.form ha
  obtain ⟨b, cap', rfl⟩ := slR.form hb
  have hla := slR.le_max ha
  by_cases hlen : l.length = m.length
  · have Hlen := Lib.hid hlen
    have hle : m.length ≤ l.length := by omega
    have hge : l.length ≤ m.length := by omega
    have hne0 : ((l.length : Int) != (m.length : Int)) = false := by simp [hlen]
    clear hlen
    go_enter Try.func152, Try.ntmps152
    go_wp2
    go_loopw [13] (fun i wr => ∃ k n : Nat, i = .int .i64 k ∧ k ≤ l.length ∧ Hid (l.take k = m.take k) ∧ wr = w.drewN n) (fun i _ => l.length - (intOf i).toNat)
    case atStart => exact ⟨0, 0, rfl, Nat.zero_le _, Lib.hid (by simp), rfl⟩
    case round =>
      obtain ⟨k, n, rfl, hk, HT, rfl⟩ := hrel
      by_cases hlt : k < l.length
      · obtain ⟨g, c, fi, rfl, ⟨rfl, pf, pi1, pi2⟩, _, hc, _, _, _⟩ := slR.at ha k hlt
        obtain ⟨g', c', fi', rfl, ⟨rfl, qf, qi1, qi2⟩, _, hc', _, _, _⟩ := slR.at hb k (by omega)
        have hp0 : w.cell? ⟨g, k * 2, none⟩ = _ := hc 0 _ rfl
        have hp1 : w.cell? ⟨g, k * 2 + 1, none⟩ = _ := hc 1 _ rfl
        have hq0 : w.cell? ⟨g', k * 2, none⟩ = _ := hc' 0 _ rfl
        have hq1 : w.cell? ⟨g', k * 2 + 1, none⟩ = _ := hc' 1 _ rfl
        clear hc hc'
        have hkm : (k : Int) < (m.length : Int) := by omega
        have hkl : (k : Int) < (l.length : Int) := by omega
        have hnq := fun W => neqStep l[k] m[k] W
        have heq := fun W => eqStep l[k] m[k] W
        have hgd := guardStep
        by_cases he : l[k] = m[k]
        · have HS := Lib.hid (take_eq_step hlt (by omega) HT.out he)
          have hne : decide (l[k] = m[k]) = true := by simp [he]
          clear he
          go_wp2
          go_quiet (fail)
          go_wp2
          go_roundw
          case rel => exact ⟨k + 1, _, by go_num, by omega, HS, rfl⟩
          case measure => simp [intOf]; omega
        · have Hfin := Lib.hid (ne_of_get hlt (by omega) he)
          have hne : decide (l[k] = m[k]) = false := by simp [he]
          clear he
          go_wp2
          go_quiet (fail)
          go_wp2
          go_ret
          exact ⟨ret_bool (by simp [Hfin.out]), by first | exact Qt.dn _ _ | exact (Qt.dn _ _).trans (Qt.dn _ _)⟩
      · have hkl : k = l.length := by omega
        have Hfin := Lib.hid (eq_of_take Hlen.out (by have := HT.out; rw [hkl] at this; exact this))
        go_wp2
        go_ret
        exact ⟨ret_bool (by simp [Hfin.out]), by first | exact Qt.dn _ _ | exact (Qt.dn _ _).trans (Qt.dn _ _)⟩
  · have hne0 : ((l.length : Int) != (m.length : Int)) = true := by simp; omega
    have Hfin := Lib.hid (show l ≠ m from fun h => hlen (by rw [h]))
    clear hlen
    go_enter Try.func152, Try.ntmps152
    go_wp2
    go_ret
    exact ⟨ret_bool (by simp [Hfin.out]), Qt.refl _⟩
theorem implSameSteps_any (va vb : Value) (l m : List StepD) (fa fb : List Nat) (w : World) (ha : steps w va l fa) (hb : steps w vb m fb) :
    Calls Try.prog 41 #[va, vb] w fun e w' => e = .returned (.bool (decide (l = m))) ∧ Qt w w' := by
  obtain ⟨a, cap, rfl⟩ := slR.form ha
  obtain ⟨b, cap', rfl⟩ := slR.form hb
  go_enter Try.func41, Try.ntmps41
  go_wp2_with fail
  refine (stepsEqual_any _ _ l m fa fb _ ha hb).mono ?_
  rintro e w1 ⟨rfl, hq⟩
  go_wp2
  go_ret
  exact ⟨rfl, hq⟩
end Go.Proofs.Ytkhihnoeapfaaaa
