/- FormatFact, FormatAccess and FormatAtom, of the program and of the reference. Condition: what the library's table reads as. -/
import Derived.Test.YtojjojcmemifhaaGreatDoorFmtTerms
import Derived.Test.YtojjojcmemifhaaGreatDoorIsFact
import Derived.Test.YtojjojcmemifhaaGreatDoorLat
namespace Go.Proofs.YtojjojcmemifhaaGreatDoor
open Go.RowKit
set_option linter.unusedVariables false
set_option linter.unusedSimpArgs false
theorem retStr {P : Program} {f : FuncId} {args : Array Value} {w : World} {a b : ByteArray} {Q : World → Prop} (h : Calls P f args w fun e w' => e = .returned (.string a) ∧ Q w') (hb : a = b) : Calls P f args w fun e w' => e = .returned (.string b) ∧ Q w' := hb ▸ h
theorem inR_i64 {n lo hi : Int} (h : inR n lo hi = true) (h1 : -9223372036854775808 ≤ lo) (h2 : hi ≤ 9223372036854775807) : I64 n := by have := inR_true h; exact ⟨by omega, by omega⟩
theorem isRel_any (r : Int) (w : World) : Calls Tryz.prog 103 #[.int .i64 r] w fun e w' => e = .returned (.bool (inR r 0 2)) ∧ w = w' := by
  go_enter Tryz.func103, Tryz.ntmps103
  go_wp2_with (go_at_call 119; refine (f119_any _ _ _ _).mono ?_; rintro e w' ⟨rfl, rfl⟩)
  go_ret
  exact ⟨rfl, rfl⟩
def factFB (x : FactD) : Bool := inR x.rel 0 2 && inR (x.vals.length : Int) 1 3 && !(x.vals.any fun n => !isVal n)
def factFS (x : FactD) : List UInt8 := if factFB x then 114 :: (Lib.itoa x.rel ++ (40 :: (listS x.vals [44] ++ [41]))) else []
theorem factFS_no {x : FactD} (h : factFB x = false) : factFS x = [] := by unfold factFS; rw [h]; rfl
theorem factFS_yes {x : FactD} (h : factFB x = true) : factFS x = 114 :: (Lib.itoa x.rel ++ (40 :: (listS x.vals [44] ++ [41]))) := by unfold factFS; rw [h]; rfl
set_option maxRecDepth 100000 in
set_option maxHeartbeats 1600000 in
theorem specFormatFact_any (x : FactD) (v : Value) (fv : List Nat) (w : World) (hx : ints w v x.vals fv) :
    Calls Tryz.prog 84 #[.agg #[.int .i64 x.rel, v]] w fun e w' => e = .returned (.string ⟨(factFS x).toArray⟩) ∧ Below w.heap.size w w' := by
  obtain ⟨r, vals⟩ := x
  obtain ⟨b, cap, rfl⟩ := slR.form hx
  have hla := slR.le_max hx
  have hI : ∀ y ∈ vals, I64 y := by obtain ⟨o, _, _, hw⟩ := row_of_ints hx; exact hw
  have HI := Lib.hid hI
  clear hI
  have hx' := fun o => hx.al o
  have Hd := Lib.hid (show factFB ⟨r, vals⟩ = (inR r 0 2 && inR (vals.length : Int) 1 3 && !(vals.any fun n => !isVal n)) from rfl)
  cases hr : inR r 0 2 with
  | false =>
    have Hf := Lib.hid (factFS_no (x := ⟨r, vals⟩) (by rw [Hd.out, hr]; rfl))
    go_enter Tryz.func84, Tryz.ntmps84
    go_wp2_with (go_at_call 98; refine (f98_any _ _ _ _).mono ?_; rintro e w' ⟨rfl, rfl⟩)
    go_ret
    exact ⟨ret_str' (by rw [Hf.out]), ba (Below.refl _ _)⟩
  | true =>
    have hIr := inR_i64 hr (by omega) (by omega)
    cases hl : inR (vals.length : Int) 1 3
    case false =>
      have Hf := Lib.hid (factFS_no (x := ⟨r, vals⟩) (by rw [Hd.out, hr, hl]; rfl))
      go_enter Tryz.func84, Tryz.ntmps84
      go_wp2_with (first | (go_at_call 98; refine (f98_any _ _ _ _).mono ?_; rintro e w' ⟨rfl, rfl⟩) | (go_at_call 98; refine (f98_any _ _ _ _).mono ?_; rintro e w' ⟨rfl, rfl⟩))
      go_ret
      exact ⟨ret_str' (by rw [Hf.out]), ba (Below.refl _ _)⟩
    have hln : vals.length ≤ 3 := by have := inR_true hl; omega
    have hn : vals.length ≤ 1048576 := by omega
    have Hd2 := Lib.hid (show factFB ⟨r, vals⟩ = !(vals.any fun n => !isVal n) by rw [Hd.out, hr, hl]; rfl)
    go_enter Tryz.func84, Tryz.ntmps84
    go_wp2_with (first | (go_at_call 98; refine (f98_any _ _ _ _).mono ?_; rintro e w' ⟨rfl, rfl⟩) | (go_at_call 98; refine (f98_any _ _ _ _).mono ?_; rintro e w' ⟨rfl, rfl⟩))
    go_loop [3] (fun i => ∃ k : Nat, i = .int .i64 k ∧ k ≤ vals.length ∧ Hid (∀ j (hj : j < vals.length), j < k → (!isVal vals[j]) = false)) (fun i => vals.length - (intOf i).toNat)
    case atStart => exact ⟨0, rfl, Nat.zero_le _, Lib.hid (fun j hj h0 => by omega)⟩
    case round =>
      obtain ⟨j, rfl, hj, HN⟩ := hrel
      by_cases hlt : j < vals.length
      · obtain ⟨g2, rfl, hc2, _, _, _⟩ := (hx' (.cells #[.int .i64 r, .slice b vals.length cap] 83)).get j hlt
        cases hp : isVal vals[j] with
        | false =>
          have hq : inR vals[j] 0 9 = false := hp
          have Hf := Lib.hid (factFS_no (x := ⟨r, vals⟩) (by rw [Hd2.out, any_true_of (p := fun n => !isVal n) hlt (by simp [hp])]; rfl))
          go_wp2_with (go_at_call 98; refine (retB (f98_any _ _ _ _) hq).mono ?_; rintro e w' ⟨rfl, rfl⟩)
          go_ret
          exact ⟨ret_str' (by rw [Hf.out]), ba (Below.refl _ _)⟩
        | true =>
          have hq : inR vals[j] 0 9 = true := hp
          have HN2 := Lib.hid (none_step (p := fun n => !isVal n) HN.out hlt (by simp [hp]))
          go_wp2_with (go_at_call 98; refine (retB (f98_any _ _ _ _) hq).mono ?_; rintro e w' ⟨rfl, rfl⟩)
          go_round
          case rel => exact ⟨j + 1, by go_num, by omega, HN2⟩
          case measure => simp [intOf]; omega
      · have hjl : j = vals.length := by omega
        have Hf := Lib.hid (factFS_yes (x := ⟨r, vals⟩) (by rw [Hd2.out, any_false_of (p := fun n => !isVal n) (fun i hi => HN.out i hi (by omega))]; rfl))
        clear hjl
        have Lb0 : ∀ y : Lat (w.alloc (.cells #[.int .i64 r, .slice b vals.length cap] 83)), y.wd.cell? ⟨w.heap.size, 0, none⟩ = some (.int .i64 r) := fun y => y.cell (cell_new w _ _ 0 _ rfl)
        have Lb1 : ∀ y : Lat (w.alloc (.cells #[.int .i64 r, .slice b vals.length cap] 83)), y.wd.cell? ⟨w.heap.size, 1, none⟩ = some (.slice b vals.length cap) := fun y => y.cell (cell_new w _ _ 1 _ rfl)
        have hxL : ∀ y : Lat (w.alloc (.cells #[.int .i64 r, .slice b vals.length cap] 83)), ints y.wd (.slice b vals.length cap) vals fv := fun y => (hx.al _).below' y.ok
        have hil := itoa_le hIr
        have hll : (listS vals [44]).length ≤ 100 := by
          have h1 := listS_len (l := vals) [44] HI.out
          have h2 : vals.length * (21 + [(44 : UInt8)].length) ≤ 3 * 22 := Nat.mul_le_mul (by omega) (by simp)
          omega
        go_wp2_with fail
        refine wp_region_lat (w.alloc (.cells #[.int .i64 r, .slice b vals.length cap] 83)) (by kernel_rfl) (by kernel_rfl) ?_
        repeat (go_big_quiet_step ((first
          | (go_at_call 115; exact Lat.of (retStr (specFormatInt_any r _ hIr) (numS_data r)))
          | (go_at_call 114; exact Lat.of (l2List_any _ vals fv _ (hxL _) hn)))))
        refine wpQuiet_nil ?_
        intro _ hw'
        obtain ⟨x1, hw''⟩ := hw'
        subst hw''
        have hbx := bt (ba (Below.refl _ _)) x1.ok
        clear Lb0 Lb1 hxL
        go_wp2
        go_ret
        exact ⟨ret_str' (by rw [Hf.out]; apply ByteArray.ext; simp), hbx⟩
set_option maxRecDepth 100000 in
set_option maxHeartbeats 1600000 in
theorem implFormatFact_any (x : FactD) (v : Value) (fv : List Nat) (w : World) (hx : ints w v x.vals fv) (hT : Lib.TabBelow Tryz.prog w.heap.size w "internal/strconv.uint64pow10" .u64 Lib.pow10Tab) :
    Calls Tryz.prog 78 #[.agg #[.int .i64 x.rel, v]] w fun e w' => e = .returned (.string ⟨(factFS x).toArray⟩) ∧ Below w.heap.size w w' := by
  obtain ⟨r, vals⟩ := x
  obtain ⟨b, cap, rfl⟩ := slR.form hx
  have hla := slR.le_max hx
  have hI : ∀ y ∈ vals, I64 y := by obtain ⟨o, _, _, hw⟩ := row_of_ints hx; exact hw
  have HI := Lib.hid hI
  clear hI
  have hx' := fun o => hx.al o
  have Hd := Lib.hid (show factFB ⟨r, vals⟩ = (inR r 0 2 && inR (vals.length : Int) 1 3 && !(vals.any fun n => !isVal n)) from rfl)
  cases hr : inR r 0 2 with
  | false =>
    have Hf := Lib.hid (factFS_no (x := ⟨r, vals⟩) (by rw [Hd.out, hr]; rfl))
    go_enter Tryz.func78, Tryz.ntmps78
    go_wp2_with (go_at_call 103; refine (isRel_any _ _).mono ?_; rintro e w' ⟨rfl, rfl⟩)
    go_ret
    exact ⟨ret_str' (by rw [Hf.out]), ba (Below.refl _ _)⟩
  | true =>
    have hIr := inR_i64 hr (by omega) (by omega)
    cases hl : inR (vals.length : Int) 1 3
    case false =>
      have Hf := Lib.hid (factFS_no (x := ⟨r, vals⟩) (by rw [Hd.out, hr, hl]; rfl))
      go_enter Tryz.func78, Tryz.ntmps78
      go_wp2_with (first | (go_at_call 103; refine (isRel_any _ _).mono ?_; rintro e w' ⟨rfl, rfl⟩) | (go_at_call 119; refine (f119_any _ _ _ _).mono ?_; rintro e w' ⟨rfl, rfl⟩))
      go_ret
      exact ⟨ret_str' (by rw [Hf.out]), ba (Below.refl _ _)⟩
    have hln : vals.length ≤ 3 := by have := inR_true hl; omega
    have hn : vals.length ≤ 1048576 := by omega
    have Hd2 := Lib.hid (show factFB ⟨r, vals⟩ = !(vals.any fun n => !isVal n) by rw [Hd.out, hr, hl]; rfl)
    cases ha : !(vals.any fun n => !isVal n) with
    | false =>
      have Hf := Lib.hid (factFS_no (x := ⟨r, vals⟩) (by rw [Hd2.out, ha]))
      go_enter Tryz.func78, Tryz.ntmps78
      go_wp2_with (first | (go_at_call 103; refine (isRel_any _ _).mono ?_; rintro e w' ⟨rfl, rfl⟩) | (go_at_call 119; refine (f119_any _ _ _ _).mono ?_; rintro e w' ⟨rfl, rfl⟩) | (go_at_call 120; refine (retB (areValues_any _ vals fv _ (hx' _)) ha).mono ?_; rintro e w' ⟨rfl, rfl⟩))
      go_ret
      exact ⟨ret_str' (by rw [Hf.out]), ba (Below.refl _ _)⟩
    | true =>
      have Hf := Lib.hid (factFS_yes (x := ⟨r, vals⟩) (by rw [Hd2.out, ha]))
      go_enter Tryz.func78, Tryz.ntmps78
      go_wp2_with (first | (go_at_call 103; refine (isRel_any _ _).mono ?_; rintro e w' ⟨rfl, rfl⟩) | (go_at_call 119; refine (f119_any _ _ _ _).mono ?_; rintro e w' ⟨rfl, rfl⟩) | (go_at_call 120; refine (retB (areValues_any _ vals fv _ (hx' _)) ha).mono ?_; rintro e w' ⟨rfl, rfl⟩))
      have Lb0 : ∀ y : Lat (w.alloc (.cells #[.int .i64 r, .slice b vals.length cap] 83)), y.wd.cell? ⟨w.heap.size, 0, none⟩ = some (.int .i64 r) := fun y => y.cell (cell_new w _ _ 0 _ rfl)
      have Lb1 : ∀ y : Lat (w.alloc (.cells #[.int .i64 r, .slice b vals.length cap] 83)), y.wd.cell? ⟨w.heap.size, 1, none⟩ = some (.slice b vals.length cap) := fun y => y.cell (cell_new w _ _ 1 _ rfl)
      have hxL : ∀ y : Lat (w.alloc (.cells #[.int .i64 r, .slice b vals.length cap] 83)), ints y.wd (.slice b vals.length cap) vals fv := fun y => (hx.al _).below' y.ok
      have hTL : ∀ y : Lat (w.alloc (.cells #[.int .i64 r, .slice b vals.length cap] 83)), Lib.TabBelow Tryz.prog y.wd.heap.size y.wd "internal/strconv.uint64pow10" .u64 Lib.pow10Tab := fun y => Tab.on hT (bt (ba (Below.refl _ _)) y.ok)
      have hil := itoa_le hIr
      have hll : (listS vals [44]).length ≤ 100 := by
        have h1 := listS_len (l := vals) [44] HI.out
        have h2 : vals.length * (21 + [(44 : UInt8)].length) ≤ 3 * 22 := Nat.mul_le_mul (by omega) (by simp)
        omega
      go_wp2_with fail
      refine wp_region_lat (w.alloc (.cells #[.int .i64 r, .slice b vals.length cap] 83)) (by kernel_rfl) (by kernel_rfl) ?_
      repeat (go_big_quiet_step ((first
        | (go_at_call 106; exact Lat.of (retStr (implFormatInt_any r _ hIr ((hTL _) _ (Below.refl _ _))) (numS_data r)))
        | (go_at_call 105; exact Lat.of (joined_any _ vals fv [44] (by simp) _ (hxL _) hn (hTL _))))))
      refine wpQuiet_nil ?_
      intro _ hw'
      obtain ⟨x1, hw''⟩ := hw'
      subst hw''
      have hbx := bt (ba (Below.refl _ _)) x1.ok
      clear Lb0 Lb1 hxL
      go_wp2
      go_ret
      exact ⟨ret_str' (by rw [Hf.out]; apply ByteArray.ext; simp), hbx⟩
def accessFB (x : AccD) : Bool := inR x.meth 0 4 && decide ((x.vals.length : Int) ≤ 3) && !(x.vals.any fun n => !isVal n)
def accessFS (x : AccD) : List UInt8 := if accessFB x then 109 :: (Lib.itoa x.meth ++ (40 :: (listS x.vals [44] ++ [41]))) else []
theorem accessFS_no {x : AccD} (h : accessFB x = false) : accessFS x = [] := by unfold accessFS; rw [h]; rfl
theorem accessFS_yes {x : AccD} (h : accessFB x = true) : accessFS x = 109 :: (Lib.itoa x.meth ++ (40 :: (listS x.vals [44] ++ [41]))) := by unfold accessFS; rw [h]; rfl
set_option maxRecDepth 100000 in
set_option maxHeartbeats 1600000 in
theorem specFormatAccess_any (x : AccD) (v : Value) (fv : List Nat) (w : World) (hx : ints w v x.vals fv) :
    Calls Tryz.prog 33 #[.agg #[.int .i64 x.meth, v]] w fun e w' => e = .returned (.string ⟨(accessFS x).toArray⟩) ∧ Below w.heap.size w w' := by
  obtain ⟨r, vals⟩ := x
  obtain ⟨b, cap, rfl⟩ := slR.form hx
  have hla := slR.le_max hx
  have hI : ∀ y ∈ vals, I64 y := by obtain ⟨o, _, _, hw⟩ := row_of_ints hx; exact hw
  have HI := Lib.hid hI
  clear hI
  have hx' := fun o => hx.al o
  have Hd := Lib.hid (show accessFB ⟨r, vals⟩ = (inR r 0 4 && decide ((vals.length : Int) ≤ 3) && !(vals.any fun n => !isVal n)) from rfl)
  cases hr : inR r 0 4 with
  | false =>
    have Hf := Lib.hid (accessFS_no (x := ⟨r, vals⟩) (by rw [Hd.out, hr]; rfl))
    go_enter Tryz.func33, Tryz.ntmps33
    go_wp2_with (go_at_call 98; refine (f98_any _ _ _ _).mono ?_; rintro e w' ⟨rfl, rfl⟩)
    go_ret
    exact ⟨ret_str' (by rw [Hf.out]), ba (Below.refl _ _)⟩
  | true =>
    have hIr := inR_i64 hr (by omega) (by omega)
    by_cases hl : (vals.length : Int) ≤ 3
    case neg =>
      have Hf := Lib.hid (accessFS_no (x := ⟨r, vals⟩) (by rw [Hd.out, hr, decide_eq_false hl]; rfl))
      have hg1 : (3 : Int) < (vals.length : Int) := by omega
      have hg2 : decide ((3 : Int) < (vals.length : Int)) = true := decide_eq_true hg1
      go_enter Tryz.func33, Tryz.ntmps33
      go_wp2_with (go_at_call 98; refine (f98_any _ _ _ _).mono ?_; rintro e w' ⟨rfl, rfl⟩)
      go_ret
      exact ⟨ret_str' (by rw [Hf.out]), ba (Below.refl _ _)⟩
    have hln : vals.length ≤ 3 := by omega
    have hn : vals.length ≤ 1048576 := by omega
    have Hd2 := Lib.hid (show accessFB ⟨r, vals⟩ = !(vals.any fun n => !isVal n) by rw [Hd.out, hr, decide_eq_true hl]; rfl)
    have hg1 : ¬ (3 : Int) < (vals.length : Int) := by omega
    have hg2 : decide ((3 : Int) < (vals.length : Int)) = false := decide_eq_false hg1
    go_enter Tryz.func33, Tryz.ntmps33
    go_wp2_with (go_at_call 98; refine (f98_any _ _ _ _).mono ?_; rintro e w' ⟨rfl, rfl⟩)
    go_loop [3] (fun i => ∃ k : Nat, i = .int .i64 k ∧ k ≤ vals.length ∧ Hid (∀ j (hj : j < vals.length), j < k → (!isVal vals[j]) = false)) (fun i => vals.length - (intOf i).toNat)
    case atStart => exact ⟨0, rfl, Nat.zero_le _, Lib.hid (fun j hj h0 => by omega)⟩
    case round =>
      obtain ⟨j, rfl, hj, HN⟩ := hrel
      by_cases hlt : j < vals.length
      · obtain ⟨g2, rfl, hc2, _, _, _⟩ := (hx' (.cells #[.int .i64 r, .slice b vals.length cap] 28)).get j hlt
        cases hp : isVal vals[j] with
        | false =>
          have hq : inR vals[j] 0 9 = false := hp
          have Hf := Lib.hid (accessFS_no (x := ⟨r, vals⟩) (by rw [Hd2.out, any_true_of (p := fun n => !isVal n) hlt (by simp [hp])]; rfl))
          go_wp2_with (go_at_call 98; refine (retB (f98_any _ _ _ _) hq).mono ?_; rintro e w' ⟨rfl, rfl⟩)
          go_ret
          exact ⟨ret_str' (by rw [Hf.out]), ba (Below.refl _ _)⟩
        | true =>
          have hq : inR vals[j] 0 9 = true := hp
          have HN2 := Lib.hid (none_step (p := fun n => !isVal n) HN.out hlt (by simp [hp]))
          go_wp2_with (go_at_call 98; refine (retB (f98_any _ _ _ _) hq).mono ?_; rintro e w' ⟨rfl, rfl⟩)
          go_round
          case rel => exact ⟨j + 1, by go_num, by omega, HN2⟩
          case measure => simp [intOf]; omega
      · have hjl : j = vals.length := by omega
        have Hf := Lib.hid (accessFS_yes (x := ⟨r, vals⟩) (by rw [Hd2.out, any_false_of (p := fun n => !isVal n) (fun i hi => HN.out i hi (by omega))]; rfl))
        clear hjl
        have Lb0 : ∀ y : Lat (w.alloc (.cells #[.int .i64 r, .slice b vals.length cap] 28)), y.wd.cell? ⟨w.heap.size, 0, none⟩ = some (.int .i64 r) := fun y => y.cell (cell_new w _ _ 0 _ rfl)
        have Lb1 : ∀ y : Lat (w.alloc (.cells #[.int .i64 r, .slice b vals.length cap] 28)), y.wd.cell? ⟨w.heap.size, 1, none⟩ = some (.slice b vals.length cap) := fun y => y.cell (cell_new w _ _ 1 _ rfl)
        have hxL : ∀ y : Lat (w.alloc (.cells #[.int .i64 r, .slice b vals.length cap] 28)), ints y.wd (.slice b vals.length cap) vals fv := fun y => (hx.al _).below' y.ok
        have hil := itoa_le hIr
        have hll : (listS vals [44]).length ≤ 100 := by
          have h1 := listS_len (l := vals) [44] HI.out
          have h2 : vals.length * (21 + [(44 : UInt8)].length) ≤ 3 * 22 := Nat.mul_le_mul (by omega) (by simp)
          omega
        go_wp2_with fail
        refine wp_region_lat (w.alloc (.cells #[.int .i64 r, .slice b vals.length cap] 28)) (by kernel_rfl) (by kernel_rfl) ?_
        repeat (go_big_quiet_step ((first
          | (go_at_call 115; exact Lat.of (retStr (specFormatInt_any r _ hIr) (numS_data r)))
          | (go_at_call 114; exact Lat.of (l2List_any _ vals fv _ (hxL _) hn)))))
        refine wpQuiet_nil ?_
        intro _ hw'
        obtain ⟨x1, hw''⟩ := hw'
        subst hw''
        have hbx := bt (ba (Below.refl _ _)) x1.ok
        clear Lb0 Lb1 hxL
        go_wp2
        go_ret
        exact ⟨ret_str' (by rw [Hf.out]; apply ByteArray.ext; simp), hbx⟩
set_option maxRecDepth 100000 in
set_option maxHeartbeats 1600000 in
theorem implFormatAccess_any (x : AccD) (v : Value) (fv : List Nat) (w : World) (hx : ints w v x.vals fv) (hT : Lib.TabBelow Tryz.prog w.heap.size w "internal/strconv.uint64pow10" .u64 Lib.pow10Tab) :
    Calls Tryz.prog 32 #[.agg #[.int .i64 x.meth, v]] w fun e w' => e = .returned (.string ⟨(accessFS x).toArray⟩) ∧ Below w.heap.size w w' := by
  obtain ⟨r, vals⟩ := x
  obtain ⟨b, cap, rfl⟩ := slR.form hx
  have hla := slR.le_max hx
  have hI : ∀ y ∈ vals, I64 y := by obtain ⟨o, _, _, hw⟩ := row_of_ints hx; exact hw
  have HI := Lib.hid hI
  clear hI
  have hx' := fun o => hx.al o
  have Hd := Lib.hid (show accessFB ⟨r, vals⟩ = (inR r 0 4 && decide ((vals.length : Int) ≤ 3) && !(vals.any fun n => !isVal n)) from rfl)
  cases hr : inR r 0 4 with
  | false =>
    have Hf := Lib.hid (accessFS_no (x := ⟨r, vals⟩) (by rw [Hd.out, hr]; rfl))
    go_enter Tryz.func32, Tryz.ntmps32
    go_wp2_with (go_at_call 119; refine (f119_any _ _ _ _).mono ?_; rintro e w' ⟨rfl, rfl⟩)
    go_ret
    exact ⟨ret_str' (by rw [Hf.out]), ba (Below.refl _ _)⟩
  | true =>
    have hIr := inR_i64 hr (by omega) (by omega)
    by_cases hl : (vals.length : Int) ≤ 3
    case neg =>
      have Hf := Lib.hid (accessFS_no (x := ⟨r, vals⟩) (by rw [Hd.out, hr, decide_eq_false hl]; rfl))
      have hg1 : (3 : Int) < (vals.length : Int) := by omega
      have hg2 : decide ((3 : Int) < (vals.length : Int)) = true := decide_eq_true hg1
      go_enter Tryz.func32, Tryz.ntmps32
      go_wp2_with (go_at_call 119; refine (f119_any _ _ _ _).mono ?_; rintro e w' ⟨rfl, rfl⟩)
      go_ret
      exact ⟨ret_str' (by rw [Hf.out]), ba (Below.refl _ _)⟩
    have hln : vals.length ≤ 3 := by omega
    have hn : vals.length ≤ 1048576 := by omega
    have Hd2 := Lib.hid (show accessFB ⟨r, vals⟩ = !(vals.any fun n => !isVal n) by rw [Hd.out, hr, decide_eq_true hl]; rfl)
    have hg1 : ¬ (3 : Int) < (vals.length : Int) := by omega
    have hg2 : decide ((3 : Int) < (vals.length : Int)) = false := decide_eq_false hg1
    cases ha : !(vals.any fun n => !isVal n) with
    | false =>
      have Hf := Lib.hid (accessFS_no (x := ⟨r, vals⟩) (by rw [Hd2.out, ha]))
      go_enter Tryz.func32, Tryz.ntmps32
      go_wp2_with (first | (go_at_call 119; refine (f119_any _ _ _ _).mono ?_; rintro e w' ⟨rfl, rfl⟩) | (go_at_call 120; refine (retB (areValues_any _ vals fv _ (hx' _)) ha).mono ?_; rintro e w' ⟨rfl, rfl⟩))
      go_ret
      exact ⟨ret_str' (by rw [Hf.out]), ba (Below.refl _ _)⟩
    | true =>
      have Hf := Lib.hid (accessFS_yes (x := ⟨r, vals⟩) (by rw [Hd2.out, ha]))
      go_enter Tryz.func32, Tryz.ntmps32
      go_wp2_with (first | (go_at_call 119; refine (f119_any _ _ _ _).mono ?_; rintro e w' ⟨rfl, rfl⟩) | (go_at_call 120; refine (retB (areValues_any _ vals fv _ (hx' _)) ha).mono ?_; rintro e w' ⟨rfl, rfl⟩))
      have Lb0 : ∀ y : Lat (w.alloc (.cells #[.int .i64 r, .slice b vals.length cap] 28)), y.wd.cell? ⟨w.heap.size, 0, none⟩ = some (.int .i64 r) := fun y => y.cell (cell_new w _ _ 0 _ rfl)
      have Lb1 : ∀ y : Lat (w.alloc (.cells #[.int .i64 r, .slice b vals.length cap] 28)), y.wd.cell? ⟨w.heap.size, 1, none⟩ = some (.slice b vals.length cap) := fun y => y.cell (cell_new w _ _ 1 _ rfl)
      have hxL : ∀ y : Lat (w.alloc (.cells #[.int .i64 r, .slice b vals.length cap] 28)), ints y.wd (.slice b vals.length cap) vals fv := fun y => (hx.al _).below' y.ok
      have hTL : ∀ y : Lat (w.alloc (.cells #[.int .i64 r, .slice b vals.length cap] 28)), Lib.TabBelow Tryz.prog y.wd.heap.size y.wd "internal/strconv.uint64pow10" .u64 Lib.pow10Tab := fun y => Tab.on hT (bt (ba (Below.refl _ _)) y.ok)
      have hil := itoa_le hIr
      have hll : (listS vals [44]).length ≤ 100 := by
        have h1 := listS_len (l := vals) [44] HI.out
        have h2 : vals.length * (21 + [(44 : UInt8)].length) ≤ 3 * 22 := Nat.mul_le_mul (by omega) (by simp)
        omega
      go_wp2_with fail
      refine wp_region_lat (w.alloc (.cells #[.int .i64 r, .slice b vals.length cap] 28)) (by kernel_rfl) (by kernel_rfl) ?_
      repeat (go_big_quiet_step ((first
        | (go_at_call 106; exact Lat.of (retStr (implFormatInt_any r _ hIr ((hTL _) _ (Below.refl _ _))) (numS_data r)))
        | (go_at_call 105; exact Lat.of (joined_any _ vals fv [44] (by simp) _ (hxL _) hn (hTL _))))))
      refine wpQuiet_nil ?_
      intro _ hw'
      obtain ⟨x1, hw''⟩ := hw'
      subst hw''
      have hbx := bt (ba (Below.refl _ _)) x1.ok
      clear Lb0 Lb1 hxL
      go_wp2
      go_ret
      exact ⟨ret_str' (by rw [Hf.out]; apply ByteArray.ext; simp), hbx⟩
def atomFB (x : AtomD) : Bool := inR x.rel 0 2 && inR (x.terms.length : Int) 1 3 && !(x.terms.any fun n => !isTermB n)
def atomFS (x : AtomD) : List UInt8 := if atomFB x then 114 :: (Lib.itoa x.rel ++ (40 :: (termsS x.terms [44] ++ [41]))) else []
theorem atomFS_no {x : AtomD} (h : atomFB x = false) : atomFS x = [] := by unfold atomFS; rw [h]; rfl
theorem atomFS_yes {x : AtomD} (h : atomFB x = true) : atomFS x = 114 :: (Lib.itoa x.rel ++ (40 :: (termsS x.terms [44] ++ [41]))) := by unfold atomFS; rw [h]; rfl
set_option maxRecDepth 100000 in
set_option maxHeartbeats 1600000 in
theorem specFormatAtom_any (x : AtomD) (v : Value) (fv : List Nat) (w : World) (hx : ints w v x.terms fv) :
    Calls Tryz.prog 64 #[.agg #[.int .i64 x.rel, v]] w fun e w' => e = .returned (.string ⟨(atomFS x).toArray⟩) ∧ Below w.heap.size w w' := by
  obtain ⟨r, vals⟩ := x
  obtain ⟨b, cap, rfl⟩ := slR.form hx
  have hla := slR.le_max hx
  have hI : ∀ y ∈ vals, I64 y := by obtain ⟨o, _, _, hw⟩ := row_of_ints hx; exact hw
  have HI := Lib.hid hI
  clear hI
  have hx' := fun o => hx.al o
  have Hd := Lib.hid (show atomFB ⟨r, vals⟩ = (inR r 0 2 && inR (vals.length : Int) 1 3 && !(vals.any fun n => !isTermB n)) from rfl)
  cases hr : inR r 0 2 with
  | false =>
    have Hf := Lib.hid (atomFS_no (x := ⟨r, vals⟩) (by rw [Hd.out, hr]; rfl))
    go_enter Tryz.func64, Tryz.ntmps64
    go_wp2_with (go_at_call 98; refine (f98_any _ _ _ _).mono ?_; rintro e w' ⟨rfl, rfl⟩)
    go_ret
    exact ⟨ret_str' (by rw [Hf.out]), ba (Below.refl _ _)⟩
  | true =>
    have hIr := inR_i64 hr (by omega) (by omega)
    cases hl : inR (vals.length : Int) 1 3
    case false =>
      have Hf := Lib.hid (atomFS_no (x := ⟨r, vals⟩) (by rw [Hd.out, hr, hl]; rfl))
      go_enter Tryz.func64, Tryz.ntmps64
      go_wp2_with (first | (go_at_call 98; refine (f98_any _ _ _ _).mono ?_; rintro e w' ⟨rfl, rfl⟩) | (go_at_call 98; refine (f98_any _ _ _ _).mono ?_; rintro e w' ⟨rfl, rfl⟩))
      go_ret
      exact ⟨ret_str' (by rw [Hf.out]), ba (Below.refl _ _)⟩
    have hln : vals.length ≤ 3 := by have := inR_true hl; omega
    have hn : vals.length ≤ 1048576 := by omega
    have Hd2 := Lib.hid (show atomFB ⟨r, vals⟩ = !(vals.any fun n => !isTermB n) by rw [Hd.out, hr, hl]; rfl)
    go_enter Tryz.func64, Tryz.ntmps64
    go_wp2_with (first | (go_at_call 98; refine (f98_any _ _ _ _).mono ?_; rintro e w' ⟨rfl, rfl⟩) | (go_at_call 98; refine (f98_any _ _ _ _).mono ?_; rintro e w' ⟨rfl, rfl⟩))
    go_loop [3] (fun i => ∃ k : Nat, i = .int .i64 k ∧ k ≤ vals.length ∧ Hid (∀ j (hj : j < vals.length), j < k → (!isTermB vals[j]) = false)) (fun i => vals.length - (intOf i).toNat)
    case atStart => exact ⟨0, rfl, Nat.zero_le _, Lib.hid (fun j hj h0 => by omega)⟩
    case round =>
      obtain ⟨j, rfl, hj, HN⟩ := hrel
      by_cases hlt : j < vals.length
      · obtain ⟨g2, rfl, hc2, _, _, _⟩ := (hx' (.cells #[.int .i64 r, .slice b vals.length cap] 73)).get j hlt
        cases hp : isTermB vals[j] with
        | false =>
          have hq := hp
          have Hf := Lib.hid (atomFS_no (x := ⟨r, vals⟩) (by rw [Hd2.out, any_true_of (p := fun n => !isTermB n) hlt (by simp [hp])]; rfl))
          go_wp2_with (go_at_call 151; refine (retB (f151_any _ _) hq).mono ?_; rintro e w' ⟨rfl, rfl⟩)
          go_ret
          exact ⟨ret_str' (by rw [Hf.out]), ba (Below.refl _ _)⟩
        | true =>
          have hq := hp
          have HN2 := Lib.hid (none_step (p := fun n => !isTermB n) HN.out hlt (by simp [hp]))
          go_wp2_with (go_at_call 151; refine (retB (f151_any _ _) hq).mono ?_; rintro e w' ⟨rfl, rfl⟩)
          go_round
          case rel => exact ⟨j + 1, by go_num, by omega, HN2⟩
          case measure => simp [intOf]; omega
      · have hjl : j = vals.length := by omega
        have Hf := Lib.hid (atomFS_yes (x := ⟨r, vals⟩) (by rw [Hd2.out, any_false_of (p := fun n => !isTermB n) (fun i hi => HN.out i hi (by omega))]; rfl))
        clear hjl
        have Lb0 : ∀ y : Lat (w.alloc (.cells #[.int .i64 r, .slice b vals.length cap] 73)), y.wd.cell? ⟨w.heap.size, 0, none⟩ = some (.int .i64 r) := fun y => y.cell (cell_new w _ _ 0 _ rfl)
        have Lb1 : ∀ y : Lat (w.alloc (.cells #[.int .i64 r, .slice b vals.length cap] 73)), y.wd.cell? ⟨w.heap.size, 1, none⟩ = some (.slice b vals.length cap) := fun y => y.cell (cell_new w _ _ 1 _ rfl)
        have hxL : ∀ y : Lat (w.alloc (.cells #[.int .i64 r, .slice b vals.length cap] 73)), ints y.wd (.slice b vals.length cap) vals fv := fun y => (hx.al _).below' y.ok
        have hil := itoa_le hIr
        have hll : (termsS vals [44]).length ≤ 100 := by
          have h1 := termsS_len (l := vals) [44] HI.out
          have h2 : vals.length * (22 + [(44 : UInt8)].length) ≤ 3 * 23 := Nat.mul_le_mul (by omega) (by simp)
          omega
        go_wp2_with fail
        refine wp_region_lat (w.alloc (.cells #[.int .i64 r, .slice b vals.length cap] 73)) (by kernel_rfl) (by kernel_rfl) ?_
        repeat (go_big_quiet_step ((first
          | (go_at_call 115; exact Lat.of (retStr (specFormatInt_any r _ hIr) (numS_data r)))
          | (go_at_call 137; exact Lat.of (l3Terms_any _ vals fv _ (hxL _) hn)))))
        refine wpQuiet_nil ?_
        intro _ hw'
        obtain ⟨x1, hw''⟩ := hw'
        subst hw''
        have hbx := bt (ba (Below.refl _ _)) x1.ok
        clear Lb0 Lb1 hxL
        go_wp2
        go_ret
        exact ⟨ret_str' (by rw [Hf.out]; apply ByteArray.ext; simp), hbx⟩
set_option maxRecDepth 100000 in
set_option maxHeartbeats 1600000 in
theorem implFormatAtom_any (x : AtomD) (v : Value) (fv : List Nat) (w : World) (hx : ints w v x.terms fv) (hT : Lib.TabBelow Tryz.prog w.heap.size w "internal/strconv.uint64pow10" .u64 Lib.pow10Tab) :
    Calls Tryz.prog 63 #[.agg #[.int .i64 x.rel, v]] w fun e w' => e = .returned (.string ⟨(atomFS x).toArray⟩) ∧ Below w.heap.size w w' := by
  obtain ⟨r, vals⟩ := x
  obtain ⟨b, cap, rfl⟩ := slR.form hx
  have hla := slR.le_max hx
  have hI : ∀ y ∈ vals, I64 y := by obtain ⟨o, _, _, hw⟩ := row_of_ints hx; exact hw
  have HI := Lib.hid hI
  clear hI
  have hx' := fun o => hx.al o
  have Hd := Lib.hid (show atomFB ⟨r, vals⟩ = (inR r 0 2 && inR (vals.length : Int) 1 3 && !(vals.any fun n => !isTermB n)) from rfl)
  cases hr : inR r 0 2 with
  | false =>
    have Hf := Lib.hid (atomFS_no (x := ⟨r, vals⟩) (by rw [Hd.out, hr]; rfl))
    go_enter Tryz.func63, Tryz.ntmps63
    go_wp2_with (go_at_call 103; refine (isRel_any _ _).mono ?_; rintro e w' ⟨rfl, rfl⟩)
    go_ret
    exact ⟨ret_str' (by rw [Hf.out]), ba (Below.refl _ _)⟩
  | true =>
    have hIr := inR_i64 hr (by omega) (by omega)
    cases hl : inR (vals.length : Int) 1 3
    case false =>
      have Hf := Lib.hid (atomFS_no (x := ⟨r, vals⟩) (by rw [Hd.out, hr, hl]; rfl))
      go_enter Tryz.func63, Tryz.ntmps63
      go_wp2_with (first | (go_at_call 103; refine (isRel_any _ _).mono ?_; rintro e w' ⟨rfl, rfl⟩) | (go_at_call 119; refine (f119_any _ _ _ _).mono ?_; rintro e w' ⟨rfl, rfl⟩))
      go_ret
      exact ⟨ret_str' (by rw [Hf.out]), ba (Below.refl _ _)⟩
    have hln : vals.length ≤ 3 := by have := inR_true hl; omega
    have hn : vals.length ≤ 1048576 := by omega
    have Hd2 := Lib.hid (show atomFB ⟨r, vals⟩ = !(vals.any fun n => !isTermB n) by rw [Hd.out, hr, hl]; rfl)
    cases ha : !(vals.any fun n => !isTermB n) with
    | false =>
      have Hf := Lib.hid (atomFS_no (x := ⟨r, vals⟩) (by rw [Hd2.out, ha]))
      go_enter Tryz.func63, Tryz.ntmps63
      go_wp2_with (first | (go_at_call 103; refine (isRel_any _ _).mono ?_; rintro e w' ⟨rfl, rfl⟩) | (go_at_call 119; refine (f119_any _ _ _ _).mono ?_; rintro e w' ⟨rfl, rfl⟩) | (go_at_call 150; refine (retB (areTerms_any _ vals fv _ (hx' _)) ha).mono ?_; rintro e w' ⟨rfl, rfl⟩))
      go_ret
      exact ⟨ret_str' (by rw [Hf.out]), ba (Below.refl _ _)⟩
    | true =>
      have Hf := Lib.hid (atomFS_yes (x := ⟨r, vals⟩) (by rw [Hd2.out, ha]))
      go_enter Tryz.func63, Tryz.ntmps63
      go_wp2_with (first | (go_at_call 103; refine (isRel_any _ _).mono ?_; rintro e w' ⟨rfl, rfl⟩) | (go_at_call 119; refine (f119_any _ _ _ _).mono ?_; rintro e w' ⟨rfl, rfl⟩) | (go_at_call 150; refine (retB (areTerms_any _ vals fv _ (hx' _)) ha).mono ?_; rintro e w' ⟨rfl, rfl⟩))
      have Lb0 : ∀ y : Lat (w.alloc (.cells #[.int .i64 r, .slice b vals.length cap] 73)), y.wd.cell? ⟨w.heap.size, 0, none⟩ = some (.int .i64 r) := fun y => y.cell (cell_new w _ _ 0 _ rfl)
      have Lb1 : ∀ y : Lat (w.alloc (.cells #[.int .i64 r, .slice b vals.length cap] 73)), y.wd.cell? ⟨w.heap.size, 1, none⟩ = some (.slice b vals.length cap) := fun y => y.cell (cell_new w _ _ 1 _ rfl)
      have hxL : ∀ y : Lat (w.alloc (.cells #[.int .i64 r, .slice b vals.length cap] 73)), ints y.wd (.slice b vals.length cap) vals fv := fun y => (hx.al _).below' y.ok
      have hTL : ∀ y : Lat (w.alloc (.cells #[.int .i64 r, .slice b vals.length cap] 73)), Lib.TabBelow Tryz.prog y.wd.heap.size y.wd "internal/strconv.uint64pow10" .u64 Lib.pow10Tab := fun y => Tab.on hT (bt (ba (Below.refl _ _)) y.ok)
      have hil := itoa_le hIr
      have hll : (termsS vals [44]).length ≤ 100 := by
        have h1 := termsS_len (l := vals) [44] HI.out
        have h2 : vals.length * (22 + [(44 : UInt8)].length) ≤ 3 * 23 := Nat.mul_le_mul (by omega) (by simp)
        omega
      go_wp2_with fail
      refine wp_region_lat (w.alloc (.cells #[.int .i64 r, .slice b vals.length cap] 73)) (by kernel_rfl) (by kernel_rfl) ?_
      repeat (go_big_quiet_step ((first
        | (go_at_call 106; exact Lat.of (retStr (implFormatInt_any r _ hIr ((hTL _) _ (Below.refl _ _))) (numS_data r)))
        | (go_at_call 135; exact Lat.of (termsText_any _ vals fv _ (hxL _) hn (hTL _))))))
      refine wpQuiet_nil ?_
      intro _ hw'
      obtain ⟨x1, hw''⟩ := hw'
      subst hw''
      have hbx := bt (ba (Below.refl _ _)) x1.ok
      clear Lb0 Lb1 hxL
      go_wp2
      go_ret
      exact ⟨ret_str' (by rw [Hf.out]; apply ByteArray.ext; simp), hbx⟩
end Go.Proofs.YtojjojcmemifhaaGreatDoor
