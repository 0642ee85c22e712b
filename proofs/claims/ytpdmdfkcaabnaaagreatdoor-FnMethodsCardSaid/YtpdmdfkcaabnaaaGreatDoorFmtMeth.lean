/- FormatMethod of the program and of the reference. Conditions: not more than 2^20 inputs; what the library's table reads as. -/
import Derived.Test.YtpdmdfkcaabnaaaGreatDoorMC
import Derived.Test.YtpdmdfkcaabnaaaGreatDoorIsMeth
import Derived.Deep.RegionWith
namespace Go.Proofs.YtpdmdfkcaabnaaaGreatDoor
open Go.RowKit
set_option linter.unusedVariables false
set_option linter.unusedSimpArgs false
def methFB (m : MethD) : Bool := inR m.rel 0 2 && fitsB m 3
/-- The inputs' text. -/
def inpS (l : List Int) : List UInt8 := if 0 < l.length then listS l [44] else [102, 114, 101, 101]
def methFS (m : MethD) : List UInt8 := if methFB m then 114 :: (Lib.itoa m.rel ++ ([32, 105, 110, 32] ++ (inpS m.inputs ++ ([32, 108, 105, 109, 105, 116, 32] ++ (Lib.itoa m.limit ++ ([32, 99, 111, 115, 116, 32] ++ (Lib.itoa m.cost ++ ([32, 113, 117, 111, 116, 97, 32] ++ Lib.itoa m.quota)))))))) else []
theorem methFS_no {m : MethD} (h : methFB m = false) : methFS m = [] := by unfold methFS; rw [h]; rfl
theorem methFS_yes {m : MethD} (h : methFB m = true) : methFS m = 114 :: (Lib.itoa m.rel ++ ([32, 105, 110, 32] ++ (inpS m.inputs ++ ([32, 108, 105, 109, 105, 116, 32] ++ (Lib.itoa m.limit ++ ([32, 99, 111, 115, 116, 32] ++ (Lib.itoa m.cost ++ ([32, 113, 117, 111, 116, 97, 32] ++ Lib.itoa m.quota)))))))) := by unfold methFS; rw [h]; rfl
theorem methFB_eq (m : MethD) : methFB m = (inR m.rel 0 2 && inR m.limit 0 9 && inR m.cost 0 99 && inR m.quota 1 99 && !anyN m.inputs.length (inputBad m 3)) := by
  unfold methFB; rw [fitsB_eq]; unfold numsB
  cases inR m.rel 0 2 <;> cases inR m.limit 0 9 <;> cases inR m.cost 0 99 <;> cases inR m.quota 1 99 <;> rfl
theorem methFB_nums {m : MethD} (h : methFB m = true) : inR m.rel 0 2 = true ∧ inR m.limit 0 9 = true ∧ inR m.cost 0 99 = true ∧ inR m.quota 1 99 = true := by
  rw [methFB_eq] at h
  simp only [Bool.and_eq_true] at h
  exact ⟨h.1.1.1.1, h.1.1.1.2, h.1.1.2, h.1.2⟩
theorem inpS_len {l : List Int} (hI : ∀ x ∈ l, I64 x) (hn : l.length ≤ 1048576) : (inpS l).length ≤ 23068676 := by
  unfold inpS
  split
  · have h1 := listS_len (l := l) [44] hI
    have h2 : l.length * (21 + [(44 : UInt8)].length) ≤ 1048576 * 22 := Nat.mul_le_mul hn (by simp)
    omega
  · simp
set_option maxRecDepth 100000 in
set_option maxHeartbeats 3200000 in
theorem specFormatMethod_any (m : MethD) (vi : Value) (fi : List Nat) (w : World) (hi : ints w vi m.inputs fi) (hn : m.inputs.length ≤ 1048576) :
    Calls Tryz.prog 24 #[.agg #[.int .i64 m.rel, vi, .int .i64 m.limit, .int .i64 m.cost, .int .i64 m.quota]] w fun e w' => e = .returned (.string ⟨(methFS m).toArray⟩) ∧ Below w.heap.size w w' := by
  obtain ⟨rel, inputs, limit, cost, quota⟩ := m
  obtain ⟨p, cap, rfl⟩ := slR.form hi
  have hla := slR.le_max hi
  have hI : ∀ y ∈ inputs, I64 y := by obtain ⟨o, _, _, hw⟩ := row_of_ints hi; exact hw
  have HIL := Lib.hid (inpS_len hI hn)
  have HIs := Lib.hid hI
  clear hI
  have hi0 := hi.al (.cells #[.int .i64 rel, .slice p inputs.length cap, .int .i64 limit, .int .i64 cost, .int .i64 quota] 38)
  have b0 : (w.alloc (.cells #[.int .i64 rel, .slice p inputs.length cap, .int .i64 limit, .int .i64 cost, .int .i64 quota] 38)).cell? ⟨w.heap.size, 0, none⟩ = some (.int .i64 rel) := cell_new w _ _ 0 _ rfl
  have b1 : (w.alloc (.cells #[.int .i64 rel, .slice p inputs.length cap, .int .i64 limit, .int .i64 cost, .int .i64 quota] 38)).cell? ⟨w.heap.size, 1, none⟩ = some (.slice p inputs.length cap) := cell_new w _ _ 1 _ rfl
  have b2 : (w.alloc (.cells #[.int .i64 rel, .slice p inputs.length cap, .int .i64 limit, .int .i64 cost, .int .i64 quota] 38)).cell? ⟨w.heap.size, 2, none⟩ = some (.int .i64 limit) := cell_new w _ _ 2 _ rfl
  have b3 : (w.alloc (.cells #[.int .i64 rel, .slice p inputs.length cap, .int .i64 limit, .int .i64 cost, .int .i64 quota] 38)).cell? ⟨w.heap.size, 3, none⟩ = some (.int .i64 cost) := cell_new w _ _ 3 _ rfl
  have b4 : (w.alloc (.cells #[.int .i64 rel, .slice p inputs.length cap, .int .i64 limit, .int .i64 cost, .int .i64 quota] 38)).cell? ⟨w.heap.size, 4, none⟩ = some (.int .i64 quota) := cell_new w _ _ 4 _ rfl
  have Hd := Lib.hid (methFB_eq ⟨rel, inputs, limit, cost, quota⟩)
  cases hr : inR rel 0 2
  case false =>
    have Hf := Lib.hid (methFS_no (m := ⟨rel, inputs, limit, cost, quota⟩) (by rw [Hd.out, show (inR rel 0 2) = false from hr]; simp))
    go_enter Tryz.func24, Tryz.ntmps24
    go_wp2_with (go_at_call 86; refine (f86_any _ _ _ _).mono ?_; rintro e w' ⟨rfl, rfl⟩)
    go_ret
    exact ⟨ret_str' (by rw [Hf.out]), ba (Below.refl _ _)⟩
  cases hl1 : inR limit 0 9
  case false =>
    have Hf := Lib.hid (methFS_no (m := ⟨rel, inputs, limit, cost, quota⟩) (by rw [Hd.out, show (inR rel 0 2) = true from hr, show (inR limit 0 9) = false from hl1]; simp))
    go_enter Tryz.func24, Tryz.ntmps24
    go_wp2_with (go_at_call 86; refine (f86_any _ _ _ _).mono ?_; rintro e w' ⟨rfl, rfl⟩)
    go_ret
    exact ⟨ret_str' (by rw [Hf.out]), ba (Below.refl _ _)⟩
  cases hl2 : inR cost 0 99
  case false =>
    have Hf := Lib.hid (methFS_no (m := ⟨rel, inputs, limit, cost, quota⟩) (by rw [Hd.out, show (inR rel 0 2) = true from hr, show (inR limit 0 9) = true from hl1, show (inR cost 0 99) = false from hl2]; simp))
    go_enter Tryz.func24, Tryz.ntmps24
    go_wp2_with (go_at_call 86; refine (f86_any _ _ _ _).mono ?_; rintro e w' ⟨rfl, rfl⟩)
    go_ret
    exact ⟨ret_str' (by rw [Hf.out]), ba (Below.refl _ _)⟩
  cases hl3 : inR quota 1 99
  case false =>
    have Hf := Lib.hid (methFS_no (m := ⟨rel, inputs, limit, cost, quota⟩) (by rw [Hd.out, show (inR rel 0 2) = true from hr, show (inR limit 0 9) = true from hl1, show (inR cost 0 99) = true from hl2, show (inR quota 1 99) = false from hl3]; simp))
    go_enter Tryz.func24, Tryz.ntmps24
    go_wp2_with (go_at_call 86; refine (f86_any _ _ _ _).mono ?_; rintro e w' ⟨rfl, rfl⟩)
    go_ret
    exact ⟨ret_str' (by rw [Hf.out]), ba (Below.refl _ _)⟩
  have Hd2 := Lib.hid (show methFB ⟨rel, inputs, limit, cost, quota⟩ = !anyN inputs.length (inputBad ⟨rel, inputs, limit, cost, quota⟩ 3) by rw [Hd.out, show (inR rel 0 2) = true from hr, show (inR limit 0 9) = true from hl1, show (inR cost 0 99) = true from hl2, show (inR quota 1 99) = true from hl3]; rfl)
  have hI1 := inR_i64 hr (by omega) (by omega)
  have hI2 := inR_i64 hl1 (by omega) (by omega)
  have hI3 := inR_i64 hl2 (by omega) (by omega)
  have hI4 := inR_i64 hl3 (by omega) (by omega)
  go_enter Tryz.func24, Tryz.ntmps24
  go_wp2_with (go_at_call 86; refine (f86_any _ _ _ _).mono ?_; rintro e w' ⟨rfl, rfl⟩)
  go_loopw [3] (fun i wr => ∃ k n : Nat, i = .int .i64 k ∧ k ≤ inputs.length ∧ Hid (∀ j, j < k → inputBad ⟨rel, inputs, limit, cost, quota⟩ 3 j = false) ∧ wr = (w.alloc (.cells #[.int .i64 rel, .slice p inputs.length cap, .int .i64 limit, .int .i64 cost, .int .i64 quota] 38)).drewN n) (fun i _ => inputs.length - (intOf i).toNat)
  case atStart => exact ⟨0, 0, rfl, Nat.zero_le _, Lib.hid (fun j h0 => by omega), rfl⟩
  case round =>
    obtain ⟨k, n, rfl, hkk, HN, rfl⟩ := hrel
    by_cases hlt : k < inputs.length
    · obtain ⟨g, hga, hc, _, _, _⟩ := hi0.get k hlt
      have hkl : (k : Int) < (inputs.length : Int) := by omega
      cases hb : inR inputs[k] 0 2 with
      | false =>
        have Hf := Lib.hid (methFS_no (m := ⟨rel, inputs, limit, cost, quota⟩) (by rw [Hd2.out, anyN_true hlt (by unfold inputBad; simp only [getD_lt hlt, show inR inputs[k] 0 (3 - 1) = false from hb]; rfl)]; rfl))
        subst hga
        go_wp2
        go_quiet ((go_at_call 86; exact qEqM (retB (f86_any _ _ _ _) hb)))
        go_wp2
        go_ret
        exact ⟨ret_str' (by rw [Hf.out]), by repeat (first | exact Below.refl _ _ | refine bdn ?_ | refine ba ?_)⟩
      | true =>
        cases k with
        | zero =>
          have HN2 := Lib.hid (anyN_step HN.out ((inputBad_zero (m := ⟨rel, inputs, limit, cost, quota⟩) hlt).trans (by rw [show inR inputs[0] 0 (3 - 1) = true from hb] <;> rfl)))
          subst hga
          go_wp2
          go_quiet ((go_at_call 86; exact qEqM (retB (f86_any _ _ _ _) hb)))
          go_wp2
          go_roundw
          case rel => exact ⟨1, _, by go_num, by omega, HN2, rfl⟩
          case measure => simp [intOf]; omega
        | succ j =>
          obtain ⟨g2, hga2, hc2, _, _, _⟩ := hi0.get j (by omega)
          subst hga
          cases hga2
          have hjl : (j : Int) < (inputs.length : Int) := by omega
          cases hp : decide (inputs[j + 1] ≤ inputs[j]) with
          | true =>
            have Hf := Lib.hid (methFS_no (m := ⟨rel, inputs, limit, cost, quota⟩) (by rw [Hd2.out, anyN_true hlt ((inputBad_succ (m := ⟨rel, inputs, limit, cost, quota⟩) hlt).trans (by rw [hp]; simp))]; rfl))
            go_wp2
            go_quiet ((go_at_call 86; exact qEqM (retB (f86_any _ _ _ _) hb)))
            go_wp2
            go_ret
            exact ⟨ret_str' (by rw [Hf.out]), by repeat (first | exact Below.refl _ _ | refine bdn ?_ | refine ba ?_)⟩
          | false =>
            have HN2 := Lib.hid (anyN_step HN.out ((inputBad_succ (m := ⟨rel, inputs, limit, cost, quota⟩) hlt).trans (by rw [show inR inputs[j + 1] 0 (3 - 1) = true from hb, hp] <;> rfl)))
            go_wp2
            go_quiet ((go_at_call 86; exact qEqM (retB (f86_any _ _ _ _) hb)))
            go_wp2
            go_roundw
            case rel => exact ⟨j + 1 + 1, _, by go_num, by omega, HN2, rfl⟩
            case measure => simp [intOf]; omega
    · have hkl : k = inputs.length := by omega
      have Hf := Lib.hid (methFS_yes (m := ⟨rel, inputs, limit, cost, quota⟩) (by rw [Hd2.out, anyN_false (fun j hj => HN.out j (by omega))]; rfl))
      clear hkl
      have hbw : Below w.heap.size w ((w.alloc (.cells #[.int .i64 rel, .slice p inputs.length cap, .int .i64 limit, .int .i64 cost, .int .i64 quota] 38)).drewN n) := bdn (ba (Below.refl _ _))
      have d0 : ((w.alloc (.cells #[.int .i64 rel, .slice p inputs.length cap, .int .i64 limit, .int .i64 cost, .int .i64 quota] 38)).drewN n).cell? ⟨w.heap.size, 0, none⟩ = _ := b0
      have d1 : ((w.alloc (.cells #[.int .i64 rel, .slice p inputs.length cap, .int .i64 limit, .int .i64 cost, .int .i64 quota] 38)).drewN n).cell? ⟨w.heap.size, 1, none⟩ = _ := b1
      have d2 : ((w.alloc (.cells #[.int .i64 rel, .slice p inputs.length cap, .int .i64 limit, .int .i64 cost, .int .i64 quota] 38)).drewN n).cell? ⟨w.heap.size, 2, none⟩ = _ := b2
      have d3 : ((w.alloc (.cells #[.int .i64 rel, .slice p inputs.length cap, .int .i64 limit, .int .i64 cost, .int .i64 quota] 38)).drewN n).cell? ⟨w.heap.size, 3, none⟩ = _ := b3
      have d4 : ((w.alloc (.cells #[.int .i64 rel, .slice p inputs.length cap, .int .i64 limit, .int .i64 cost, .int .i64 quota] 38)).drewN n).cell? ⟨w.heap.size, 4, none⟩ = _ := b4
      have hi1 := hi0.dn n
      obtain ⟨w1, hw1⟩ : ∃ w1, w1 = (w.alloc (.cells #[.int .i64 rel, .slice p inputs.length cap, .int .i64 limit, .int .i64 cost, .int .i64 quota] 38)).drewN n := ⟨_, rfl⟩
      rw [← hw1] at hbw d0 d1 d2 d3 d4 hi1 ⊢
      clear hw1
      by_cases hp0 : 0 < inputs.length
      · have hpos : (0 : Int) < (inputs.length : Int) := by omega
        have hposd : decide ((0 : Int) < (inputs.length : Int)) = true := decide_eq_true hpos
        have Hin := Lib.hid (show inpS inputs = listS inputs [44] by unfold inpS; rw [if_pos hp0])
        have hll : (listS inputs [44]).length ≤ 23068676 := by rw [← Hin.out]; exact HIL.out
        go_wp2_with fail
        refine (l2List_any _ inputs fi _ hi1 hn).mono ?_
        rintro e WF ⟨rfl, hb1⟩
        have hbF := bt hbw hb1
        have bc0 := cell_below d0 hb1
        have bc1 := cell_below d1 hb1
        have bc2 := cell_below d2 hb1
        have bc3 := cell_below d3 hb1
        have bc4 := cell_below d4 hb1
        have hil1 := itoa_le hI1
        have hil2 := itoa_le hI2
        have hil3 := itoa_le hI3
        have hil4 := itoa_le hI4
        have Lb0 : ∀ y : Lat WF, y.wd.cell? ⟨w.heap.size, 0, none⟩ = some (.int .i64 rel) := fun y => y.cell bc0
        have Lb1 : ∀ y : Lat WF, y.wd.cell? ⟨w.heap.size, 1, none⟩ = some (.slice p inputs.length cap) := fun y => y.cell bc1
        have Lb2 : ∀ y : Lat WF, y.wd.cell? ⟨w.heap.size, 2, none⟩ = some (.int .i64 limit) := fun y => y.cell bc2
        have Lb3 : ∀ y : Lat WF, y.wd.cell? ⟨w.heap.size, 3, none⟩ = some (.int .i64 cost) := fun y => y.cell bc3
        have Lb4 : ∀ y : Lat WF, y.wd.cell? ⟨w.heap.size, 4, none⟩ = some (.int .i64 quota) := fun y => y.cell bc4
        go_wp2_with fail
        refine wp_region_lat WF (by kernel_rfl) (by kernel_rfl) ?_
        repeat (go_big_quiet_step ((first
          | (go_at_call_of 103 (Value.int .i64 rel); exact Lat.of (retStr (specFormatInt_any rel _ hI1) (numS_data rel)))
          | (go_at_call_of 103 (Value.int .i64 limit); exact Lat.of (retStr (specFormatInt_any limit _ hI2) (numS_data limit)))
          | (go_at_call_of 103 (Value.int .i64 cost); exact Lat.of (retStr (specFormatInt_any cost _ hI3) (numS_data cost)))
          | (go_at_call_of 103 (Value.int .i64 quota); exact Lat.of (retStr (specFormatInt_any quota _ hI4) (numS_data quota))))))
        refine wpQuiet_nil ?_
        intro _ hw'
        obtain ⟨x1, hw''⟩ := hw'
        subst hw''
        have hbx := bt hbF x1.ok
        clear Lb0 Lb1 Lb2 Lb3 Lb4
        go_wp2
        go_ret
        exact ⟨ret_str' (by rw [Hf.out, Hin.out]; apply ByteArray.ext; simp), hbx⟩
      · have hpos : ¬ (0 : Int) < (inputs.length : Int) := by omega
        have hposd : decide ((0 : Int) < (inputs.length : Int)) = false := decide_eq_false hpos
        have Hin := Lib.hid (show inpS inputs = [102, 114, 101, 101] by unfold inpS; rw [if_neg hp0])
        have hbF := hbw
        have bc0 := d0
        have bc1 := d1
        have bc2 := d2
        have bc3 := d3
        have bc4 := d4
        have hil1 := itoa_le hI1
        have hil2 := itoa_le hI2
        have hil3 := itoa_le hI3
        have hil4 := itoa_le hI4
        have Lb0 : ∀ y : Lat w1, y.wd.cell? ⟨w.heap.size, 0, none⟩ = some (.int .i64 rel) := fun y => y.cell bc0
        have Lb1 : ∀ y : Lat w1, y.wd.cell? ⟨w.heap.size, 1, none⟩ = some (.slice p inputs.length cap) := fun y => y.cell bc1
        have Lb2 : ∀ y : Lat w1, y.wd.cell? ⟨w.heap.size, 2, none⟩ = some (.int .i64 limit) := fun y => y.cell bc2
        have Lb3 : ∀ y : Lat w1, y.wd.cell? ⟨w.heap.size, 3, none⟩ = some (.int .i64 cost) := fun y => y.cell bc3
        have Lb4 : ∀ y : Lat w1, y.wd.cell? ⟨w.heap.size, 4, none⟩ = some (.int .i64 quota) := fun y => y.cell bc4
        go_wp2_with fail
        refine wp_region_lat w1 (by kernel_rfl) (by kernel_rfl) ?_
        repeat (go_big_quiet_step ((first
          | (go_at_call_of 103 (Value.int .i64 rel); exact Lat.of (retStr (specFormatInt_any rel _ hI1) (numS_data rel)))
          | (go_at_call_of 103 (Value.int .i64 limit); exact Lat.of (retStr (specFormatInt_any limit _ hI2) (numS_data limit)))
          | (go_at_call_of 103 (Value.int .i64 cost); exact Lat.of (retStr (specFormatInt_any cost _ hI3) (numS_data cost)))
          | (go_at_call_of 103 (Value.int .i64 quota); exact Lat.of (retStr (specFormatInt_any quota _ hI4) (numS_data quota))))))
        refine wpQuiet_nil ?_
        intro _ hw'
        obtain ⟨x1, hw''⟩ := hw'
        subst hw''
        have hbx := bt hbF x1.ok
        clear Lb0 Lb1 Lb2 Lb3 Lb4
        go_wp2
        go_ret
        exact ⟨ret_str' (by rw [Hf.out, Hin.out]; apply ByteArray.ext; simp), hbx⟩
set_option maxRecDepth 100000 in
set_option maxHeartbeats 3200000 in
theorem implFormatMethod_any (m : MethD) (vi : Value) (fi : List Nat) (w : World) (hi : ints w vi m.inputs fi) (hn : m.inputs.length ≤ 1048576) (hT : Lib.TabBelow Tryz.prog w.heap.size w "internal/strconv.uint64pow10" .u64 Lib.pow10Tab) :
    Calls Tryz.prog 18 #[.agg #[.int .i64 m.rel, vi, .int .i64 m.limit, .int .i64 m.cost, .int .i64 m.quota]] w fun e w' => e = .returned (.string ⟨(methFS m).toArray⟩) ∧ Below w.heap.size w w' := by
  obtain ⟨rel, inputs, limit, cost, quota⟩ := m
  obtain ⟨p, cap, rfl⟩ := slR.form hi
  have hla := slR.le_max hi
  have hI : ∀ y ∈ inputs, I64 y := by obtain ⟨o, _, _, hw⟩ := row_of_ints hi; exact hw
  have HIL := Lib.hid (inpS_len hI hn)
  have HIs := Lib.hid hI
  clear hI
  have hi0 := hi.al (.cells #[.int .i64 rel, .slice p inputs.length cap, .int .i64 limit, .int .i64 cost, .int .i64 quota] 38)
  have b0 : (w.alloc (.cells #[.int .i64 rel, .slice p inputs.length cap, .int .i64 limit, .int .i64 cost, .int .i64 quota] 38)).cell? ⟨w.heap.size, 0, none⟩ = some (.int .i64 rel) := cell_new w _ _ 0 _ rfl
  have b1 : (w.alloc (.cells #[.int .i64 rel, .slice p inputs.length cap, .int .i64 limit, .int .i64 cost, .int .i64 quota] 38)).cell? ⟨w.heap.size, 1, none⟩ = some (.slice p inputs.length cap) := cell_new w _ _ 1 _ rfl
  have b2 : (w.alloc (.cells #[.int .i64 rel, .slice p inputs.length cap, .int .i64 limit, .int .i64 cost, .int .i64 quota] 38)).cell? ⟨w.heap.size, 2, none⟩ = some (.int .i64 limit) := cell_new w _ _ 2 _ rfl
  have b3 : (w.alloc (.cells #[.int .i64 rel, .slice p inputs.length cap, .int .i64 limit, .int .i64 cost, .int .i64 quota] 38)).cell? ⟨w.heap.size, 3, none⟩ = some (.int .i64 cost) := cell_new w _ _ 3 _ rfl
  have b4 : (w.alloc (.cells #[.int .i64 rel, .slice p inputs.length cap, .int .i64 limit, .int .i64 cost, .int .i64 quota] 38)).cell? ⟨w.heap.size, 4, none⟩ = some (.int .i64 quota) := cell_new w _ _ 4 _ rfl
  have Hd := Lib.hid (show methFB ⟨rel, inputs, limit, cost, quota⟩ = (inR rel 0 2 && fitsB ⟨rel, inputs, limit, cost, quota⟩ 3) from rfl)
  cases hr : inR rel 0 2 with
  | false =>
    have Hf := Lib.hid (methFS_no (m := ⟨rel, inputs, limit, cost, quota⟩) (by rw [Hd.out, hr]; rfl))
    go_enter Tryz.func18, Tryz.ntmps18
    go_wp2_with (go_at_call 91; refine (isRel_any _ _).mono ?_; rintro e w' ⟨rfl, rfl⟩)
    go_ret
    exact ⟨ret_str' (by rw [Hf.out]), ba (Below.refl _ _)⟩
  | true =>
    have hfq := fits_any ⟨rel, inputs, limit, cost, quota⟩ _ fi 3 _ hi0 (by omega)
    cases hft : fitsB ⟨rel, inputs, limit, cost, quota⟩ 3 with
    | false =>
      have Hf := Lib.hid (methFS_no (m := ⟨rel, inputs, limit, cost, quota⟩) (by rw [Hd.out, hr, hft]; rfl))
      rw [hft] at hfq
      go_enter Tryz.func18, Tryz.ntmps18
      go_wp2_with (go_at_call 91; refine (isRel_any _ _).mono ?_; rintro e w' ⟨rfl, rfl⟩)
      refine hfq.mono ?_
      rintro e w1 ⟨rfl, hb1⟩
      have hbw := bt (ba (Below.refl _ _)) hb1
      clear hfq
      go_wp2
      go_ret
      exact ⟨ret_str' (by rw [Hf.out]), hbw⟩
    | true =>
      have HB := Lib.hid (show methFB ⟨rel, inputs, limit, cost, quota⟩ = true by rw [Hd.out, hr, hft]; rfl)
      have Hf := Lib.hid (methFS_yes HB.out)
      obtain ⟨h1, h2, h3, h4⟩ := methFB_nums HB.out
      have hI1 := inR_i64 h1 (by omega) (by omega)
      have hI2 := inR_i64 h2 (by omega) (by omega)
      have hI3 := inR_i64 h3 (by omega) (by omega)
      have hI4 := inR_i64 h4 (by omega) (by omega)
      clear h1 h2 h3 h4
      rw [hft] at hfq
      clear hft
      go_enter Tryz.func18, Tryz.ntmps18
      go_wp2_with (go_at_call 91; refine (isRel_any _ _).mono ?_; rintro e w' ⟨rfl, rfl⟩)
      refine hfq.mono ?_
      rintro e w1 ⟨rfl, hb0⟩
      have hbw := bt (ba (Below.refl _ _)) hb0
      have d0 := cell_below b0 hb0
      have d1 := cell_below b1 hb0
      have d2 := cell_below b2 hb0
      have d3 := cell_below b3 hb0
      have d4 := cell_below b4 hb0
      have hi1 := hi0.below' hb0
      clear hfq hr
      by_cases hp0 : 0 < inputs.length
      · have hpos : (0 : Int) < (inputs.length : Int) := by omega
        have hposd : decide ((0 : Int) < (inputs.length : Int)) = true := decide_eq_true hpos
        have Hin := Lib.hid (show inpS inputs = listS inputs [44] by unfold inpS; rw [if_pos hp0])
        have hll : (listS inputs [44]).length ≤ 23068676 := by rw [← Hin.out]; exact HIL.out
        go_wp2_with fail
        refine (joined_any _ inputs fi [44] (by simp) _ hi1 hn (Tab.on hT hbw)).mono ?_
        rintro e WF ⟨rfl, hb1⟩
        have hbF := bt hbw hb1
        have bc0 := cell_below d0 hb1
        have bc1 := cell_below d1 hb1
        have bc2 := cell_below d2 hb1
        have bc3 := cell_below d3 hb1
        have bc4 := cell_below d4 hb1
        have hTF := Tab.on hT hbF
        have hil1 := itoa_le hI1
        have hil2 := itoa_le hI2
        have hil3 := itoa_le hI3
        have hil4 := itoa_le hI4
        have Lb0 : ∀ y : Lat WF, y.wd.cell? ⟨w.heap.size, 0, none⟩ = some (.int .i64 rel) := fun y => y.cell bc0
        have Lb1 : ∀ y : Lat WF, y.wd.cell? ⟨w.heap.size, 1, none⟩ = some (.slice p inputs.length cap) := fun y => y.cell bc1
        have Lb2 : ∀ y : Lat WF, y.wd.cell? ⟨w.heap.size, 2, none⟩ = some (.int .i64 limit) := fun y => y.cell bc2
        have Lb3 : ∀ y : Lat WF, y.wd.cell? ⟨w.heap.size, 3, none⟩ = some (.int .i64 cost) := fun y => y.cell bc3
        have Lb4 : ∀ y : Lat WF, y.wd.cell? ⟨w.heap.size, 4, none⟩ = some (.int .i64 quota) := fun y => y.cell bc4
        have hTL : ∀ y : Lat WF, Lib.TabBelow Tryz.prog y.wd.heap.size y.wd "internal/strconv.uint64pow10" .u64 Lib.pow10Tab := fun y => Tab.on hTF y.ok
        go_wp2_with fail
        refine wp_region_lat WF (by kernel_rfl) (by kernel_rfl) ?_
        repeat (go_big_quiet_step ((first
          | (go_at_call_of 94 (Value.int .i64 rel); exact Lat.of (retStr (implFormatInt_any rel _ hI1 ((hTL _) _ (Below.refl _ _))) (numS_data rel)))
          | (go_at_call_of 94 (Value.int .i64 limit); exact Lat.of (retStr (implFormatInt_any limit _ hI2 ((hTL _) _ (Below.refl _ _))) (numS_data limit)))
          | (go_at_call_of 94 (Value.int .i64 cost); exact Lat.of (retStr (implFormatInt_any cost _ hI3 ((hTL _) _ (Below.refl _ _))) (numS_data cost)))
          | (go_at_call_of 94 (Value.int .i64 quota); exact Lat.of (retStr (implFormatInt_any quota _ hI4 ((hTL _) _ (Below.refl _ _))) (numS_data quota))))))
        refine wpQuiet_nil ?_
        intro _ hw'
        obtain ⟨x1, hw''⟩ := hw'
        subst hw''
        have hbx := bt hbF x1.ok
        clear Lb0 Lb1 Lb2 Lb3 Lb4
        go_wp2
        go_ret
        exact ⟨ret_str' (by rw [Hf.out, Hin.out]; apply ByteArray.ext; simp), hbx⟩
      · have hpos : ¬ (0 : Int) < (inputs.length : Int) := by omega
        have hposd : decide ((0 : Int) < (inputs.length : Int)) = false := decide_eq_false hpos
        have Hin := Lib.hid (show inpS inputs = [102, 114, 101, 101] by unfold inpS; rw [if_neg hp0])
        have hbF := hbw
        have bc0 := d0
        have bc1 := d1
        have bc2 := d2
        have bc3 := d3
        have bc4 := d4
        have hTF := Tab.on hT hbF
        have hil1 := itoa_le hI1
        have hil2 := itoa_le hI2
        have hil3 := itoa_le hI3
        have hil4 := itoa_le hI4
        have Lb0 : ∀ y : Lat w1, y.wd.cell? ⟨w.heap.size, 0, none⟩ = some (.int .i64 rel) := fun y => y.cell bc0
        have Lb1 : ∀ y : Lat w1, y.wd.cell? ⟨w.heap.size, 1, none⟩ = some (.slice p inputs.length cap) := fun y => y.cell bc1
        have Lb2 : ∀ y : Lat w1, y.wd.cell? ⟨w.heap.size, 2, none⟩ = some (.int .i64 limit) := fun y => y.cell bc2
        have Lb3 : ∀ y : Lat w1, y.wd.cell? ⟨w.heap.size, 3, none⟩ = some (.int .i64 cost) := fun y => y.cell bc3
        have Lb4 : ∀ y : Lat w1, y.wd.cell? ⟨w.heap.size, 4, none⟩ = some (.int .i64 quota) := fun y => y.cell bc4
        have hTL : ∀ y : Lat w1, Lib.TabBelow Tryz.prog y.wd.heap.size y.wd "internal/strconv.uint64pow10" .u64 Lib.pow10Tab := fun y => Tab.on hTF y.ok
        go_wp2_with fail
        refine wp_region_lat w1 (by kernel_rfl) (by kernel_rfl) ?_
        repeat (go_big_quiet_step ((first
          | (go_at_call_of 94 (Value.int .i64 rel); exact Lat.of (retStr (implFormatInt_any rel _ hI1 ((hTL _) _ (Below.refl _ _))) (numS_data rel)))
          | (go_at_call_of 94 (Value.int .i64 limit); exact Lat.of (retStr (implFormatInt_any limit _ hI2 ((hTL _) _ (Below.refl _ _))) (numS_data limit)))
          | (go_at_call_of 94 (Value.int .i64 cost); exact Lat.of (retStr (implFormatInt_any cost _ hI3 ((hTL _) _ (Below.refl _ _))) (numS_data cost)))
          | (go_at_call_of 94 (Value.int .i64 quota); exact Lat.of (retStr (implFormatInt_any quota _ hI4 ((hTL _) _ (Below.refl _ _))) (numS_data quota))))))
        refine wpQuiet_nil ?_
        intro _ hw'
        obtain ⟨x1, hw''⟩ := hw'
        subst hw''
        have hbx := bt hbF x1.ok
        clear Lb0 Lb1 Lb2 Lb3 Lb4
        go_wp2
        go_ret
        exact ⟨ret_str' (by rw [Hf.out, Hin.out]; apply ByteArray.ext; simp), hbx⟩
end Go.Proofs.YtpdmdfkcaabnaaaGreatDoor
