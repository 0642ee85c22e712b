/- FormatFact, FormatAccess and FormatAtom, of the program and of the reference. Condition: what the library's table reads as. -/
import Derived.Test.YthpgmhnlblobkaaDoorFmtTerms
import Derived.Test.YthpgmhnlblobkaaDoorIsFact
import Derived.Test.YthpgmhnlblobkaaDoorLat
namespace Go.Proofs.YthpgmhnlblobkaaDoor
open Go.RowKit
set_option linter.unusedVariables false
set_option linter.unusedSimpArgs false
theorem retStr {P : Program} {f : FuncId} {args : Array Value} {w : World} {a b : ByteArray} {Q : World → Prop} (h : Calls P f args w fun e w' => e = .returned (.string a) ∧ Q w') (hb : a = b) : Calls P f args w fun e w' => e = .returned (.string b) ∧ Q w' := hb ▸ h
theorem inR_i64 {n lo hi : Int} (h : inR n lo hi = true) (h1 : -9223372036854775808 ≤ lo) (h2 : hi ≤ 9223372036854775807) : I64 n := by have := inR_true h; exact ⟨by omega, by omega⟩
theorem isRel_any (r : Int) (w : World) : Calls Tryd.prog 77 #[.int .i64 r] w fun e w' => e = .returned (.bool (inR r 0 2)) ∧ w = w' := by
  go_enter Tryd.func77, Tryd.ntmps77
  go_wp2_with (go_at_call 74; refine (f74_any _ _ _ _).mono ?_; rintro e w' ⟨rfl, rfl⟩)
  go_ret
  exact ⟨rfl, rfl⟩
def factFB (x : FactD) : Bool := inR x.rel 0 2 && inR (x.vals.length : Int) 1 3 && !(x.vals.any fun n => !isVal n)
def factFS (x : FactD) : List UInt8 := if factFB x then 114 :: (Lib.itoa x.rel ++ (40 :: (listS x.vals [44] ++ [41]))) else []
theorem factFS_no {x : FactD} (h : factFB x = false) : factFS x = [] := by unfold factFS; rw [h]; rfl
theorem factFS_yes {x : FactD} (h : factFB x = true) : factFS x = 114 :: (Lib.itoa x.rel ++ (40 :: (listS x.vals [44] ++ [41]))) := by unfold factFS; rw [h]; rfl
set_option maxRecDepth 100000 in
set_option maxHeartbeats 1600000 in
theorem specFormatFact_any (x : FactD) (v : Value) (fv : List Nat) (w : World) (hx : ints w v x.vals fv) :
    Calls Tryd.prog 32 #[.agg #[.int .i64 x.rel, v]] w fun e w' => e = .returned (.string ⟨(factFS x).toArray⟩) ∧ Below w.heap.size w w' := by
  obtain ⟨r, vals⟩ := x
  obtain ⟨b, cap, rfl⟩ := slR.form hx
  have hla := slR.le_max hx
  have hI : ∀ y ∈ vals, I64 y := by obtain ⟨o, _, _, hw⟩ := row_of_ints hx; exact hw
  have HI := Lib.hid hI
  clear hI
  have hx' := fun o => hx.al o
  have Hd := Lib.hid (show factFB ⟨r, vals⟩ = (inR r 0 2 && inR (vals.length : Int) 1 3 && !(vals.any fun n => !isVal n)) from rfl)
  cases hr : inR r 0 2 with
  | false =>
    have Hf := Lib.hid (factFS_no (x := ⟨r, vals⟩) (by rw [Hd.out, hr]; rfl))
    go_enter Tryd.func32, Tryd.ntmps32
    go_wp2_with (go_at_call 72; refine (f72_any _ _ _ _).mono ?_; rintro e w' ⟨rfl, rfl⟩)
    go_ret
    exact ⟨ret_str' (by rw [Hf.out]), ba (Below.refl _ _)⟩
  | true =>
    have hIr := inR_i64 hr (by omega) (by omega)
    cases hl : inR (vals.length : Int) 1 3
    case false =>
      have Hf := Lib.hid (factFS_no (x := ⟨r, vals⟩) (by rw [Hd.out, hr, hl]; rfl))
      go_enter Tryd.func32, Tryd.ntmps32
      go_wp2_with (first | (go_at_call 72; refine (f72_any _ _ _ _).mono ?_; rintro e w' ⟨rfl, rfl⟩) | (go_at_call 72; refine (f72_any _ _ _ _).mono ?_; rintro e w' ⟨rfl, rfl⟩))
      go_ret
      exact ⟨ret_str' (by rw [Hf.out]), ba (Below.refl _ _)⟩
    have hln : vals.length ≤ 3 := by have := inR_true hl; omega
    have hn : vals.length ≤ 1048576 := by omega
    have Hd2 := Lib.hid (show factFB ⟨r, vals⟩ = !(vals.any fun n => !isVal n) by rw [Hd.out, hr, hl]; rfl)
    go_enter Tryd.func32, Tryd.ntmps32
    go_wp2_with (first | (go_at_call 72; refine (f72_any _ _ _ _).mono ?_; rintro e w' ⟨rfl, rfl⟩) | (go_at_call 72; refine (f72_any _ _ _ _).mono ?_; rintro e w' ⟨rfl, rfl⟩))
    go_loop [3] (fun i => ∃ k : Nat, i = .int .i64 k ∧ k ≤ vals.length ∧ Hid (∀ j (hj : j < vals.length), j < k → (!isVal vals[j]) = false)) (fun i => vals.length - (intOf i).toNat)
    case atStart => exact ⟨0, rfl, Nat.zero_le _, Lib.hid (fun j hj h0 => by omega)⟩
    case round =>
      obtain ⟨j, rfl, hj, HN⟩ := hrel
      by_cases hlt : j < vals.length
      · obtain ⟨g2, rfl, hc2, _, _, _⟩ := (hx' (.cells #[.int .i64 r, .slice b vals.length cap] 50)).get j hlt
        cases hp : isVal vals[j] with
        | false =>
          have hq : inR vals[j] 0 9 = false := hp
          have Hf := Lib.hid (factFS_no (x := ⟨r, vals⟩) (by rw [Hd2.out, any_true_of (p := fun n => !isVal n) hlt (by simp [hp])]; rfl))
          go_wp2_with (go_at_call 72; refine (retB (f72_any _ _ _ _) hq).mono ?_; rintro e w' ⟨rfl, rfl⟩)
          go_ret
          exact ⟨ret_str' (by rw [Hf.out]), ba (Below.refl _ _)⟩
        | true =>
          have hq : inR vals[j] 0 9 = true := hp
          have HN2 := Lib.hid (none_step (p := fun n => !isVal n) HN.out hlt (by simp [hp]))
          go_wp2_with (go_at_call 72; refine (retB (f72_any _ _ _ _) hq).mono ?_; rintro e w' ⟨rfl, rfl⟩)
          go_round
          case rel => exact ⟨j + 1, by go_num, by omega, HN2⟩
          case measure => simp [intOf]; omega
      · have hjl : j = vals.length := by omega
        have Hf := Lib.hid (factFS_yes (x := ⟨r, vals⟩) (by rw [Hd2.out, any_false_of (p := fun n => !isVal n) (fun i hi => HN.out i hi (by omega))]; rfl))
        clear hjl
        have Lb0 : ∀ y : Lat (w.alloc (.cells #[.int .i64 r, .slice b vals.length cap] 50)), y.wd.cell? ⟨w.heap.size, 0, none⟩ = some (.int .i64 r) := fun y => y.cell (cell_new w _ _ 0 _ rfl)
        have Lb1 : ∀ y : Lat (w.alloc (.cells #[.int .i64 r, .slice b vals.length cap] 50)), y.wd.cell? ⟨w.heap.size, 1, none⟩ = some (.slice b vals.length cap) := fun y => y.cell (cell_new w _ _ 1 _ rfl)
        have hxL : ∀ y : Lat (w.alloc (.cells #[.int .i64 r, .slice b vals.length cap] 50)), ints y.wd (.slice b vals.length cap) vals fv := fun y => (hx.al _).below' y.ok
        have hil := itoa_le hIr
        have hll : (listS vals [44]).length ≤ 100 := by
          have h1 := listS_len (l := vals) [44] HI.out
          have h2 : vals.length * (21 + [(44 : UInt8)].length) ≤ 3 * 22 := Nat.mul_le_mul (by omega) (by simp)
          omega
        go_wp2_with fail
        refine wp_region_lat (w.alloc (.cells #[.int .i64 r, .slice b vals.length cap] 50)) (by kernel_rfl) (by kernel_rfl) ?_
        repeat (go_big_quiet_step ((first
          | (go_at_call 14; exact Lat.of (retStr (specFormatInt_any r _ hIr) (numS_data r)))
          | (go_at_call 67; exact Lat.of (l2List_any _ vals fv _ (hxL _) hn)))))
        refine wpQuiet_nil ?_
        intro _ hw'
        obtain ⟨x1, hw''⟩ := hw'
        subst hw''
        have hbx := bt (ba (Below.refl _ _)) x1.ok
        clear Lb0 Lb1 hxL
        go_wp2
        go_ret
        exact ⟨ret_str' (by rw [Hf.out]; apply ByteArray.ext; simp), hbx⟩
set_option maxRecDepth 100000 in
set_option maxHeartbeats 1600000 in
theorem implFormatFact_any (x : FactD) (v : Value) (fv : List Nat) (w : World) (hx : ints w v x.vals fv) (hT : Lib.TabBelow Tryd.prog w.heap.size w "internal/strconv.uint64pow10" .u64 Lib.pow10Tab) :
    Calls Tryd.prog 34 #[.agg #[.int .i64 x.rel, v]] w fun e w' => e = .returned (.string ⟨(factFS x).toArray⟩) ∧ Below w.heap.size w w' := by
  obtain ⟨r, vals⟩ := x
  obtain ⟨b, cap, rfl⟩ := slR.form hx
  have hla := slR.le_max hx
  have hI : ∀ y ∈ vals, I64 y := by obtain ⟨o, _, _, hw⟩ := row_of_ints hx; exact hw
  have HI := Lib.hid hI
  clear hI
  have hx' := fun o => hx.al o
  have Hd := Lib.hid (show factFB ⟨r, vals⟩ = (inR r 0 2 && inR (vals.length : Int) 1 3 && !(vals.any fun n => !isVal n)) from rfl)
  cases hr : inR r 0 2 with
  | false =>
    have Hf := Lib.hid (factFS_no (x := ⟨r, vals⟩) (by rw [Hd.out, hr]; rfl))
    go_enter Tryd.func34, Tryd.ntmps34
    go_wp2_with (go_at_call 77; refine (isRel_any _ _).mono ?_; rintro e w' ⟨rfl, rfl⟩)
    go_ret
    exact ⟨ret_str' (by rw [Hf.out]), ba (Below.refl _ _)⟩
  | true =>
    have hIr := inR_i64 hr (by omega) (by omega)
    cases hl : inR (vals.length : Int) 1 3
    case false =>
      have Hf := Lib.hid (factFS_no (x := ⟨r, vals⟩) (by rw [Hd.out, hr, hl]; rfl))
      go_enter Tryd.func34, Tryd.ntmps34
      go_wp2_with (first | (go_at_call 77; refine (isRel_any _ _).mono ?_; rintro e w' ⟨rfl, rfl⟩) | (go_at_call 74; refine (f74_any _ _ _ _).mono ?_; rintro e w' ⟨rfl, rfl⟩))
      go_ret
      exact ⟨ret_str' (by rw [Hf.out]), ba (Below.refl _ _)⟩
    have hln : vals.length ≤ 3 := by have := inR_true hl; omega
    have hn : vals.length ≤ 1048576 := by omega
    have Hd2 := Lib.hid (show factFB ⟨r, vals⟩ = !(vals.any fun n => !isVal n) by rw [Hd.out, hr, hl]; rfl)
    cases ha : !(vals.any fun n => !isVal n) with
    | false =>
      have Hf := Lib.hid (factFS_no (x := ⟨r, vals⟩) (by rw [Hd2.out, ha]))
      go_enter Tryd.func34, Tryd.ntmps34
      go_wp2_with (first | (go_at_call 77; refine (isRel_any _ _).mono ?_; rintro e w' ⟨rfl, rfl⟩) | (go_at_call 74; refine (f74_any _ _ _ _).mono ?_; rintro e w' ⟨rfl, rfl⟩) | (go_at_call 76; refine (retB (areValues_any _ vals fv _ (hx' _)) ha).mono ?_; rintro e w' ⟨rfl, rfl⟩))
      go_ret
      exact ⟨ret_str' (by rw [Hf.out]), ba (Below.refl _ _)⟩
    | true =>
      have Hf := Lib.hid (factFS_yes (x := ⟨r, vals⟩) (by rw [Hd2.out, ha]))
      go_enter Tryd.func34, Tryd.ntmps34
      go_wp2_with (first | (go_at_call 77; refine (isRel_any _ _).mono ?_; rintro e w' ⟨rfl, rfl⟩) | (go_at_call 74; refine (f74_any _ _ _ _).mono ?_; rintro e w' ⟨rfl, rfl⟩) | (go_at_call 76; refine (retB (areValues_any _ vals fv _ (hx' _)) ha).mono ?_; rintro e w' ⟨rfl, rfl⟩))
      have Lb0 : ∀ y : Lat (w.alloc (.cells #[.int .i64 r, .slice b vals.length cap] 50)), y.wd.cell? ⟨w.heap.size, 0, none⟩ = some (.int .i64 r) := fun y => y.cell (cell_new w _ _ 0 _ rfl)
      have Lb1 : ∀ y : Lat (w.alloc (.cells #[.int .i64 r, .slice b vals.length cap] 50)), y.wd.cell? ⟨w.heap.size, 1, none⟩ = some (.slice b vals.length cap) := fun y => y.cell (cell_new w _ _ 1 _ rfl)
      have hxL : ∀ y : Lat (w.alloc (.cells #[.int .i64 r, .slice b vals.length cap] 50)), ints y.wd (.slice b vals.length cap) vals fv := fun y => (hx.al _).below' y.ok
      have hTL : ∀ y : Lat (w.alloc (.cells #[.int .i64 r, .slice b vals.length cap] 50)), Lib.TabBelow Tryd.prog y.wd.heap.size y.wd "internal/strconv.uint64pow10" .u64 Lib.pow10Tab := fun y => Tab.on hT (bt (ba (Below.refl _ _)) y.ok)
      have hil := itoa_le hIr
      have hll : (listS vals [44]).length ≤ 100 := by
        have h1 := listS_len (l := vals) [44] HI.out
        have h2 : vals.length * (21 + [(44 : UInt8)].length) ≤ 3 * 22 := Nat.mul_le_mul (by omega) (by simp)
        omega
      go_wp2_with fail
      refine wp_region_lat (w.alloc (.cells #[.int .i64 r, .slice b vals.length cap] 50)) (by kernel_rfl) (by kernel_rfl) ?_
      repeat (go_big_quiet_step ((first
        | (go_at_call 15; exact Lat.of (retStr (implFormatInt_any r _ hIr ((hTL _) _ (Below.refl _ _))) (numS_data r)))
        | (go_at_call 69; exact Lat.of (joined_any _ vals fv [44] (by simp) _ (hxL _) hn (hTL _))))))
      refine wpQuiet_nil ?_
      intro _ hw'
      obtain ⟨x1, hw''⟩ := hw'
      subst hw''
      have hbx := bt (ba (Below.refl _ _)) x1.ok
      clear Lb0 Lb1 hxL
      go_wp2
      go_ret
      exact ⟨ret_str' (by rw [Hf.out]; apply ByteArray.ext; simp), hbx⟩
def accessFB (x : AccD) : Bool := inR x.meth 0 4 && decide ((x.vals.length : Int) ≤ 3) && !(x.vals.any fun n => !isVal n)
def accessFS (x : AccD) : List UInt8 := if accessFB x then 109 :: (Lib.itoa x.meth ++ (40 :: (listS x.vals [44] ++ [41]))) else []
theorem accessFS_no {x : AccD} (h : accessFB x = false) : accessFS x = [] := by unfold accessFS; rw [h]; rfl
theorem accessFS_yes {x : AccD} (h : accessFB x = true) : accessFS x = 109 :: (Lib.itoa x.meth ++ (40 :: (listS x.vals [44] ++ [41]))) := by unfold accessFS; rw [h]; rfl
set_option maxRecDepth 100000 in
set_option maxHeartbeats 1600000 in
theorem specFormatAccess_any (x : AccD) (v : Value) (fv : List Nat) (w : World) (hx : ints w v x.vals fv) :
    Calls Tryd.prog 27 #[.agg #[.int .i64 x.meth, v]] w fun e w' => e = .returned (.string ⟨(accessFS x).toArray⟩) ∧ Below w.heap.size w w' := by
  obtain ⟨r, vals⟩ := x
  obtain ⟨b, cap, rfl⟩ := slR.form hx
  have hla := slR.le_max hx
  have hI : ∀ y ∈ vals, I64 y := by obtain ⟨o, _, _, hw⟩ := row_of_ints hx; exact hw
  have HI := Lib.hid hI
  clear hI
  have hx' := fun o => hx.al o
  have Hd := Lib.hid (show accessFB ⟨r, vals⟩ = (inR r 0 4 && decide ((vals.length : Int) ≤ 3) && !(vals.any fun n => !isVal n)) from rfl)
  cases hr : inR r 0 4 with
  | false =>
    have Hf := Lib.hid (accessFS_no (x := ⟨r, vals⟩) (by rw [Hd.out, hr]; rfl))
    go_enter Tryd.func27, Tryd.ntmps27
    go_wp2_with (go_at_call 72; refine (f72_any _ _ _ _).mono ?_; rintro e w' ⟨rfl, rfl⟩)
    go_ret
    exact ⟨ret_str' (by rw [Hf.out]), ba (Below.refl _ _)⟩
  | true =>
    have hIr := inR_i64 hr (by omega) (by omega)
    by_cases hl : (vals.length : Int) ≤ 3
    case neg =>
      have Hf := Lib.hid (accessFS_no (x := ⟨r, vals⟩) (by rw [Hd.out, hr, decide_eq_false hl]; rfl))
      have hg1 : (3 : Int) < (vals.length : Int) := by omega
      have hg2 : decide ((3 : Int) < (vals.length : Int)) = true := decide_eq_true hg1
      go_enter Tryd.func27, Tryd.ntmps27
      go_wp2_with (go_at_call 72; refine (f72_any _ _ _ _).mono ?_; rintro e w' ⟨rfl, rfl⟩)
      go_ret
      exact ⟨ret_str' (by rw [Hf.out]), ba (Below.refl _ _)⟩
    have hln : vals.length ≤ 3 := by omega
    have hn : vals.length ≤ 1048576 := by omega
    have Hd2 := Lib.hid (show accessFB ⟨r, vals⟩ = !(vals.any fun n => !isVal n) by rw [Hd.out, hr, decide_eq_true hl]; rfl)
    have hg1 : ¬ (3 : Int) < (vals.length : Int) := by omega
    have hg2 : decide ((3 : Int) < (vals.length : Int)) = false := decide_eq_false hg1
    go_enter Tryd.func27, Tryd.ntmps27
    go_wp2_with (go_at_call 72; refine (f72_any _ _ _ _).mono ?_; rintro e w' ⟨rfl, rfl⟩)
    go_loop [3] (fun i => ∃ k : Nat, i = .int .i64 k ∧ k ≤ vals.length ∧ Hid (∀ j (hj : j < vals.length), j < k → (!isVal vals[j]) = false)) (fun i => vals.length - (intOf i).toNat)
    case atStart => exact ⟨0, rfl, Nat.zero_le _, Lib.hid (fun j hj h0 => by omega)⟩
    case round =>
      obtain ⟨j, rfl, hj, HN⟩ := hrel
      by_cases hlt : j < vals.length
      · obtain ⟨g2, rfl, hc2, _, _, _⟩ := (hx' (.cells #[.int .i64 r, .slice b vals.length cap] 42)).get j hlt
        cases hp : isVal vals[j] with
        | false =>
          have hq : inR vals[j] 0 9 = false := hp
          have Hf := Lib.hid (accessFS_no (x := ⟨r, vals⟩) (by rw [Hd2.out, any_true_of (p := fun n => !isVal n) hlt (by simp [hp])]; rfl))
          go_wp2_with (go_at_call 72; refine (retB (f72_any _ _ _ _) hq).mono ?_; rintro e w' ⟨rfl, rfl⟩)
          go_ret
          exact ⟨ret_str' (by rw [Hf.out]), ba (Below.refl _ _)⟩
        | true =>
          have hq : inR vals[j] 0 9 = true := hp
          have HN2 := Lib.hid (none_step (p := fun n => !isVal n) HN.out hlt (by simp [hp]))
          go_wp2_with (go_at_call 72; refine (retB (f72_any _ _ _ _) hq).mono ?_; rintro e w' ⟨rfl, rfl⟩)
          go_round
          case rel => exact ⟨j + 1, by go_num, by omega, HN2⟩
          case measure => simp [intOf]; omega
      · have hjl : j = vals.length := by omega
        have Hf := Lib.hid (accessFS_yes (x := ⟨r, vals⟩) (by rw [Hd2.out, any_false_of (p := fun n => !isVal n) (fun i hi => HN.out i hi (by omega))]; rfl))
        clear hjl
        have Lb0 : ∀ y : Lat (w.alloc (.cells #[.int .i64 r, .slice b vals.length cap] 42)), y.wd.cell? ⟨w.heap.size, 0, none⟩ = some (.int .i64 r) := fun y => y.cell (cell_new w _ _ 0 _ rfl)
        have Lb1 : ∀ y : Lat (w.alloc (.cells #[.int .i64 r, .slice b vals.length cap] 42)), y.wd.cell? ⟨w.heap.size, 1, none⟩ = some (.slice b vals.length cap) := fun y => y.cell (cell_new w _ _ 1 _ rfl)
        have hxL : ∀ y : Lat (w.alloc (.cells #[.int .i64 r, .slice b vals.length cap] 42)), ints y.wd (.slice b vals.length cap) vals fv := fun y => (hx.al _).below' y.ok
        have hil := itoa_le hIr
        have hll : (listS vals [44]).length ≤ 100 := by
          have h1 := listS_len (l := vals) [44] HI.out
          have h2 : vals.length * (21 + [(44 : UInt8)].length) ≤ 3 * 22 := Nat.mul_le_mul (by omega) (by simp)
          omega
        go_wp2_with fail
        refine wp_region_lat (w.alloc (.cells #[.int .i64 r, .slice b vals.length cap] 42)) (by kernel_rfl) (by kernel_rfl) ?_
        repeat (go_big_quiet_step ((first
          | (go_at_call 14; exact Lat.of (retStr (specFormatInt_any r _ hIr) (numS_data r)))
          | (go_at_call 67; exact Lat.of (l2List_any _ vals fv _ (hxL _) hn)))))
        refine wpQuiet_nil ?_
        intro _ hw'
        obtain ⟨x1, hw''⟩ := hw'
        subst hw''
        have hbx := bt (ba (Below.refl _ _)) x1.ok
        clear Lb0 Lb1 hxL
        go_wp2
        go_ret
        exact ⟨ret_str' (by rw [Hf.out]; apply ByteArray.ext; simp), hbx⟩
set_option maxRecDepth 100000 in
set_option maxHeartbeats 1600000 in
theorem implFormatAccess_any (x : AccD) (v : Value) (fv : List Nat) (w : World) (hx : ints w v x.vals fv) (hT : Lib.TabBelow Tryd.prog w.heap.size w "internal/strconv.uint64pow10" .u64 Lib.pow10Tab) :
    Calls Tryd.prog 29 #[.agg #[.int .i64 x.meth, v]] w fun e w' => e = .returned (.string ⟨(accessFS x).toArray⟩) ∧ Below w.heap.size w w' := by
  obtain ⟨r, vals⟩ := x
  obtain ⟨b, cap, rfl⟩ := slR.form hx
  have hla := slR.le_max hx
  have hI : ∀ y ∈ vals, I64 y := by obtain ⟨o, _, _, hw⟩ := row_of_ints hx; exact hw
  have HI := Lib.hid hI
  clear hI
  have hx' := fun o => hx.al o
  have Hd := Lib.hid (show accessFB ⟨r, vals⟩ = (inR r 0 4 && decide ((vals.length : Int) ≤ 3) && !(vals.any fun n => !isVal n)) from rfl)
  cases hr : inR r 0 4 with
  | false =>
    have Hf := Lib.hid (accessFS_no (x := ⟨r, vals⟩) (by rw [Hd.out, hr]; rfl))
    go_enter Tryd.func29, Tryd.ntmps29
    go_wp2_with (go_at_call 74; refine (f74_any _ _ _ _).mono ?_; rintro e w' ⟨rfl, rfl⟩)
    go_ret
    exact ⟨ret_str' (by rw [Hf.out]), ba (Below.refl _ _)⟩
  | true =>
    have hIr := inR_i64 hr (by omega) (by omega)
    by_cases hl : (vals.length : Int) ≤ 3
    case neg =>
      have Hf := Lib.hid (accessFS_no (x := ⟨r, vals⟩) (by rw [Hd.out, hr, decide_eq_false hl]; rfl))
      have hg1 : (3 : Int) < (vals.length : Int) := by omega
      have hg2 : decide ((3 : Int) < (vals.length : Int)) = true := decide_eq_true hg1
      go_enter Tryd.func29, Tryd.ntmps29
      go_wp2_with (go_at_call 74; refine (f74_any _ _ _ _).mono ?_; rintro e w' ⟨rfl, rfl⟩)
      go_ret
      exact ⟨ret_str' (by rw [Hf.out]), ba (Below.refl _ _)⟩
    have hln : vals.length ≤ 3 := by omega
    have hn : vals.length ≤ 1048576 := by omega
    have Hd2 := Lib.hid (show accessFB ⟨r, vals⟩ = !(vals.any fun n => !isVal n) by rw [Hd.out, hr, decide_eq_true hl]; rfl)
    have hg1 : ¬ (3 : Int) < (vals.length : Int) := by omega
    have hg2 : decide ((3 : Int) < (vals.length : Int)) = false := decide_eq_false hg1
    cases ha : !(vals.any fun n => !isVal n) with
    | false =>
      have Hf := Lib.hid (accessFS_no (x := ⟨r, vals⟩) (by rw [Hd2.out, ha]))
      go_enter Tryd.func29, Tryd.ntmps29
      go_wp2_with (first | (go_at_call 74; refine (f74_any _ _ _ _).mono ?_; rintro e w' ⟨rfl, rfl⟩) | (go_at_call 76; refine (retB (areValues_any _ vals fv _ (hx' _)) ha).mono ?_; rintro e w' ⟨rfl, rfl⟩))
      go_ret
      exact ⟨ret_str' (by rw [Hf.out]), ba (Below.refl _ _)⟩
    | true =>
      have Hf := Lib.hid (accessFS_yes (x := ⟨r, vals⟩) (by rw [Hd2.out, ha]))
      go_enter Tryd.func29, Tryd.ntmps29
      go_wp2_with (first | (go_at_call 74; refine (f74_any _ _ _ _).mono ?_; rintro e w' ⟨rfl, rfl⟩) | (go_at_call 76; refine (retB (areValues_any _ vals fv _ (hx' _)) ha).mono ?_; rintro e w' ⟨rfl, rfl⟩))
      have Lb0 : ∀ y : Lat (w.alloc (.cells #[.int .i64 r, .slice b vals.length cap] 42)), y.wd.cell? ⟨w.heap.size, 0, none⟩ = some (.int .i64 r) := fun y => y.cell (cell_new w _ _ 0 _ rfl)
      have Lb1 : ∀ y : Lat (w.alloc (.cells #[.int .i64 r, .slice b vals.length cap] 42)), y.wd.cell? ⟨w.heap.size, 1, none⟩ = some (.slice b vals.length cap) := fun y => y.cell (cell_new w _ _ 1 _ rfl)
      have hxL : ∀ y : Lat (w.alloc (.cells #[.int .i64 r, .slice b vals.length cap] 42)), ints y.wd (.slice b vals.length cap) vals fv := fun y => (hx.al _).below' y.ok
      have hTL : ∀ y : Lat (w.alloc (.cells #[.int .i64 r, .slice b vals.length cap] 42)), Lib.TabBelow Tryd.prog y.wd.heap.size y.wd "internal/strconv.uint64pow10" .u64 Lib.pow10Tab := fun y => Tab.on hT (bt (ba (Below.refl _ _)) y.ok)
      have hil := itoa_le hIr
      have hll : (listS vals [44]).length ≤ 100 := by
        have h1 := listS_len (l := vals) [44] HI.out
        have h2 : vals.length * (21 + [(44 : UInt8)].length) ≤ 3 * 22 := Nat.mul_le_mul (by omega) (by simp)
        omega
      go_wp2_with fail
      refine wp_region_lat (w.alloc (.cells #[.int .i64 r, .slice b vals.length cap] 42)) (by kernel_rfl) (by kernel_rfl) ?_
      repeat (go_big_quiet_step ((first
        | (go_at_call 15; exact Lat.of (retStr (implFormatInt_any r _ hIr ((hTL _) _ (Below.refl _ _))) (numS_data r)))
        | (go_at_call 69; exact Lat.of (joined_any _ vals fv [44] (by simp) _ (hxL _) hn (hTL _))))))
      refine wpQuiet_nil ?_
      intro _ hw'
      obtain ⟨x1, hw''⟩ := hw'
      subst hw''
      have hbx := bt (ba (Below.refl _ _)) x1.ok
      clear Lb0 Lb1 hxL
      go_wp2
      go_ret
      exact ⟨ret_str' (by rw [Hf.out]; apply ByteArray.ext; simp), hbx⟩
def atomFB (x : AtomD) : Bool := inR x.rel 0 2 && inR (x.terms.length : Int) 1 3 && !(x.terms.any fun n => !isTermB n)
def atomFS (x : AtomD) : List UInt8 := if atomFB x then 114 :: (Lib.itoa x.rel ++ (40 :: (termsS x.terms [44] ++ [41]))) else []
theorem atomFS_no {x : AtomD} (h : atomFB x = false) : atomFS x = [] := by unfold atomFS; rw [h]; rfl
theorem atomFS_yes {x : AtomD} (h : atomFB x = true) : atomFS x = 114 :: (Lib.itoa x.rel ++ (40 :: (termsS x.terms [44] ++ [41]))) := by unfold atomFS; rw [h]; rfl
set_option maxRecDepth 100000 in
set_option maxHeartbeats 1600000 in
theorem specFormatAtom_any (x : AtomD) (v : Value) (fv : List Nat) (w : World) (hx : ints w v x.terms fv) :
    Calls Tryd.prog 37 #[.agg #[.int .i64 x.rel, v]] w fun e w' => e = .returned (.string ⟨(atomFS x).toArray⟩) ∧ Below w.heap.size w w' := by
  obtain ⟨r, vals⟩ := x
  obtain ⟨b, cap, rfl⟩ := slR.form hx
  have hla := slR.le_max hx
  have hI : ∀ y ∈ vals, I64 y := by obtain ⟨o, _, _, hw⟩ := row_of_ints hx; exact hw
  have HI := Lib.hid hI
  clear hI
  have hx' := fun o => hx.al o
  have Hd := Lib.hid (show atomFB ⟨r, vals⟩ = (inR r 0 2 && inR (vals.length : Int) 1 3 && !(vals.any fun n => !isTermB n)) from rfl)
  cases hr : inR r 0 2 with
  | false =>
    have Hf := Lib.hid (atomFS_no (x := ⟨r, vals⟩) (by rw [Hd.out, hr]; rfl))
    go_enter Tryd.func37, Tryd.ntmps37
    go_wp2_with (go_at_call 72; refine (f72_any _ _ _ _).mono ?_; rintro e w' ⟨rfl, rfl⟩)
    go_ret
    exact ⟨ret_str' (by rw [Hf.out]), ba (Below.refl _ _)⟩
  | true =>
    have hIr := inR_i64 hr (by omega) (by omega)
    cases hl : inR (vals.length : Int) 1 3
    case false =>
      have Hf := Lib.hid (atomFS_no (x := ⟨r, vals⟩) (by rw [Hd.out, hr, hl]; rfl))
      go_enter Tryd.func37, Tryd.ntmps37
      go_wp2_with (first | (go_at_call 72; refine (f72_any _ _ _ _).mono ?_; rintro e w' ⟨rfl, rfl⟩) | (go_at_call 72; refine (f72_any _ _ _ _).mono ?_; rintro e w' ⟨rfl, rfl⟩))
      go_ret
      exact ⟨ret_str' (by rw [Hf.out]), ba (Below.refl _ _)⟩
    have hln : vals.length ≤ 3 := by have := inR_true hl; omega
    have hn : vals.length ≤ 1048576 := by omega
    have Hd2 := Lib.hid (show atomFB ⟨r, vals⟩ = !(vals.any fun n => !isTermB n) by rw [Hd.out, hr, hl]; rfl)
    go_enter Tryd.func37, Tryd.ntmps37
    go_wp2_with (first | (go_at_call 72; refine (f72_any _ _ _ _).mono ?_; rintro e w' ⟨rfl, rfl⟩) | (go_at_call 72; refine (f72_any _ _ _ _).mono ?_; rintro e w' ⟨rfl, rfl⟩))
    go_loop [3] (fun i => ∃ k : Nat, i = .int .i64 k ∧ k ≤ vals.length ∧ Hid (∀ j (hj : j < vals.length), j < k → (!isTermB vals[j]) = false)) (fun i => vals.length - (intOf i).toNat)
    case atStart => exact ⟨0, rfl, Nat.zero_le _, Lib.hid (fun j hj h0 => by omega)⟩
    case round =>
      obtain ⟨j, rfl, hj, HN⟩ := hrel
      by_cases hlt : j < vals.length
      · obtain ⟨g2, rfl, hc2, _, _, _⟩ := (hx' (.cells #[.int .i64 r, .slice b vals.length cap] 58)).get j hlt
        cases hp : isTermB vals[j] with
        | false =>
          have hq := hp
          have Hf := Lib.hid (atomFS_no (x := ⟨r, vals⟩) (by rw [Hd2.out, any_true_of (p := fun n => !isTermB n) hlt (by simp [hp])]; rfl))
          go_wp2_with (go_at_call 78; refine (retB (f78_any _ _) hq).mono ?_; rintro e w' ⟨rfl, rfl⟩)
          go_ret
          exact ⟨ret_str' (by rw [Hf.out]), ba (Below.refl _ _)⟩
        | true =>
          have hq := hp
          have HN2 := Lib.hid (none_step (p := fun n => !isTermB n) HN.out hlt (by simp [hp]))
          go_wp2_with (go_at_call 78; refine (retB (f78_any _ _) hq).mono ?_; rintro e w' ⟨rfl, rfl⟩)
          go_round
          case rel => exact ⟨j + 1, by go_num, by omega, HN2⟩
          case measure => simp [intOf]; omega
      · have hjl : j = vals.length := by omega
        have Hf := Lib.hid (atomFS_yes (x := ⟨r, vals⟩) (by rw [Hd2.out, any_false_of (p := fun n => !isTermB n) (fun i hi => HN.out i hi (by omega))]; rfl))
        clear hjl
        have Lb0 : ∀ y : Lat (w.alloc (.cells #[.int .i64 r, .slice b vals.length cap] 58)), y.wd.cell? ⟨w.heap.size, 0, none⟩ = some (.int .i64 r) := fun y => y.cell (cell_new w _ _ 0 _ rfl)
        have Lb1 : ∀ y : Lat (w.alloc (.cells #[.int .i64 r, .slice b vals.length cap] 58)), y.wd.cell? ⟨w.heap.size, 1, none⟩ = some (.slice b vals.length cap) := fun y => y.cell (cell_new w _ _ 1 _ rfl)
        have hxL : ∀ y : Lat (w.alloc (.cells #[.int .i64 r, .slice b vals.length cap] 58)), ints y.wd (.slice b vals.length cap) vals fv := fun y => (hx.al _).below' y.ok
        have hil := itoa_le hIr
        have hll : (termsS vals [44]).length ≤ 100 := by
          have h1 := termsS_len (l := vals) [44] HI.out
          have h2 : vals.length * (22 + [(44 : UInt8)].length) ≤ 3 * 23 := Nat.mul_le_mul (by omega) (by simp)
          omega
        go_wp2_with fail
        refine wp_region_lat (w.alloc (.cells #[.int .i64 r, .slice b vals.length cap] 58)) (by kernel_rfl) (by kernel_rfl) ?_
        repeat (go_big_quiet_step ((first
          | (go_at_call 14; exact Lat.of (retStr (specFormatInt_any r _ hIr) (numS_data r)))
          | (go_at_call 79; exact Lat.of (l3Terms_any _ vals fv _ (hxL _) hn)))))
        refine wpQuiet_nil ?_
        intro _ hw'
        obtain ⟨x1, hw''⟩ := hw'
        subst hw''
        have hbx := bt (ba (Below.refl _ _)) x1.ok
        clear Lb0 Lb1 hxL
        go_wp2
        go_ret
        exact ⟨ret_str' (by rw [Hf.out]; apply ByteArray.ext; simp), hbx⟩
set_option maxRecDepth 100000 in
set_option maxHeartbeats 1600000 in
theorem implFormatAtom_any (x : AtomD) (v : Value) (fv : List Nat) (w : World) (hx : ints w v x.terms fv) (hT : Lib.TabBelow Tryd.prog w.heap.size w "internal/strconv.uint64pow10" .u64 Lib.pow10Tab) :
    Calls Tryd.prog 39 #[.agg #[.int .i64 x.rel, v]] w fun e w' => e = .returned (.string ⟨(atomFS x).toArray⟩) ∧ Below w.heap.size w w' := by
  obtain ⟨r, vals⟩ := x
  obtain ⟨b, cap, rfl⟩ := slR.form hx
  have hla := slR.le_max hx
  have hI : ∀ y ∈ vals, I64 y := by obtain ⟨o, _, _, hw⟩ := row_of_ints hx; exact hw
  have HI := Lib.hid hI
  clear hI
  have hx' := fun o => hx.al o
  have Hd := Lib.hid (show atomFB ⟨r, vals⟩ = (inR r 0 2 && inR (vals.length : Int) 1 3 && !(vals.any fun n => !isTermB n)) from rfl)
  cases hr : inR r 0 2 with
  | false =>
    have Hf := Lib.hid (atomFS_no (x := ⟨r, vals⟩) (by rw [Hd.out, hr]; rfl))
    go_enter Tryd.func39, Tryd.ntmps39
    go_wp2_with (go_at_call 77; refine (isRel_any _ _).mono ?_; rintro e w' ⟨rfl, rfl⟩)
    go_ret
    exact ⟨ret_str' (by rw [Hf.out]), ba (Below.refl _ _)⟩
  | true =>
    have hIr := inR_i64 hr (by omega) (by omega)
    cases hl : inR (vals.length : Int) 1 3
    case false =>
      have Hf := Lib.hid (atomFS_no (x := ⟨r, vals⟩) (by rw [Hd.out, hr, hl]; rfl))
      go_enter Tryd.func39, Tryd.ntmps39
      go_wp2_with (first | (go_at_call 77; refine (isRel_any _ _).mono ?_; rintro e w' ⟨rfl, rfl⟩) | (go_at_call 74; refine (f74_any _ _ _ _).mono ?_; rintro e w' ⟨rfl, rfl⟩))
      go_ret
      exact ⟨ret_str' (by rw [Hf.out]), ba (Below.refl _ _)⟩
    have hln : vals.length ≤ 3 := by have := inR_true hl; omega
    have hn : vals.length ≤ 1048576 := by omega
    have Hd2 := Lib.hid (show atomFB ⟨r, vals⟩ = !(vals.any fun n => !isTermB n) by rw [Hd.out, hr, hl]; rfl)
    cases ha : !(vals.any fun n => !isTermB n) with
    | false =>
      have Hf := Lib.hid (atomFS_no (x := ⟨r, vals⟩) (by rw [Hd2.out, ha]))
      go_enter Tryd.func39, Tryd.ntmps39
      go_wp2_with (first | (go_at_call 77; refine (isRel_any _ _).mono ?_; rintro e w' ⟨rfl, rfl⟩) | (go_at_call 74; refine (f74_any _ _ _ _).mono ?_; rintro e w' ⟨rfl, rfl⟩) | (go_at_call 80; refine (retB (areTerms_any _ vals fv _ (hx' _)) ha).mono ?_; rintro e w' ⟨rfl, rfl⟩))
      go_ret
      exact ⟨ret_str' (by rw [Hf.out]), ba (Below.refl _ _)⟩
    | true =>
      have Hf := Lib.hid (atomFS_yes (x := ⟨r, vals⟩) (by rw [Hd2.out, ha]))
      go_enter Tryd.func39, Tryd.ntmps39
      go_wp2_with (first | (go_at_call 77; refine (isRel_any _ _).mono ?_; rintro e w' ⟨rfl, rfl⟩) | (go_at_call 74; refine (f74_any _ _ _ _).mono ?_; rintro e w' ⟨rfl, rfl⟩) | (go_at_call 80; refine (retB (areTerms_any _ vals fv _ (hx' _)) ha).mono ?_; rintro e w' ⟨rfl, rfl⟩))
      have Lb0 : ∀ y : Lat (w.alloc (.cells #[.int .i64 r, .slice b vals.length cap] 58)), y.wd.cell? ⟨w.heap.size, 0, none⟩ = some (.int .i64 r) := fun y => y.cell (cell_new w _ _ 0 _ rfl)
      have Lb1 : ∀ y : Lat (w.alloc (.cells #[.int .i64 r, .slice b vals.length cap] 58)), y.wd.cell? ⟨w.heap.size, 1, none⟩ = some (.slice b vals.length cap) := fun y => y.cell (cell_new w _ _ 1 _ rfl)
      have hxL : ∀ y : Lat (w.alloc (.cells #[.int .i64 r, .slice b vals.length cap] 58)), ints y.wd (.slice b vals.length cap) vals fv := fun y => (hx.al _).below' y.ok
      have hTL : ∀ y : Lat (w.alloc (.cells #[.int .i64 r, .slice b vals.length cap] 58)), Lib.TabBelow Tryd.prog y.wd.heap.size y.wd "internal/strconv.uint64pow10" .u64 Lib.pow10Tab := fun y => Tab.on hT (bt (ba (Below.refl _ _)) y.ok)
      have hil := itoa_le hIr
      have hll : (termsS vals [44]).length ≤ 100 := by
        have h1 := termsS_len (l := vals) [44] HI.out
        have h2 : vals.length * (22 + [(44 : UInt8)].length) ≤ 3 * 23 := Nat.mul_le_mul (by omega) (by simp)
        omega
      go_wp2_with fail
      refine wp_region_lat (w.alloc (.cells #[.int .i64 r, .slice b vals.length cap] 58)) (by kernel_rfl) (by kernel_rfl) ?_
      repeat (go_big_quiet_step ((first
        | (go_at_call 15; exact Lat.of (retStr (implFormatInt_any r _ hIr ((hTL _) _ (Below.refl _ _))) (numS_data r)))
        | (go_at_call 81; exact Lat.of (termsText_any _ vals fv _ (hxL _) hn (hTL _))))))
      refine wpQuiet_nil ?_
      intro _ hw'
      obtain ⟨x1, hw''⟩ := hw'
      subst hw''
      have hbx := bt (ba (Below.refl _ _)) x1.ok
      clear Lb0 Lb1 hxL
      go_wp2
      go_ret
      exact ⟨ret_str' (by rw [Hf.out]; apply ByteArray.ext; simp), hbx⟩
end Go.Proofs.YthpgmhnlblobkaaDoor
