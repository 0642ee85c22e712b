/- AreFacts, of the program and of the reference. No condition. -/
import Derived.Test.YtpdmdfkcaabnaaaGreatDoorMC
import Derived.Test.YtpdmdfkcaabnaaaGreatDoorCmpFact
import Derived.Test.YtpdmdfkcaabnaaaGreatDoorIdxS
import Derived.IntWalk
namespace Go.Proofs.YtpdmdfkcaabnaaaGreatDoor
open Go.RowKit
set_option linter.unusedVariables false
set_option linter.unusedSimpArgs false
theorem factsBad_no {s : List Int} {l : List FactD} {k : Nat} (hk : k < l.length) (h : factB s l[k] = false) : factsBad s l k = true := by
  unfold factsBad; rw [getD_lt hk, h]; rfl
theorem factsBad_zero {s : List Int} {l : List FactD} (hk : 0 < l.length) (h : factB s l[0] = true) : factsBad s l 0 = false := by
  unfold factsBad; rw [getD_lt hk, h]; rfl
theorem factsBad_succ {s : List Int} {l : List FactD} {j : Nat} (hk : j + 1 < l.length) (h : factB s l[j + 1] = true) : factsBad s l (j + 1) = decide (0 ≤ cmpFact l[j] l[j + 1]) := by
  unfold factsBad
  rw [getD_lt hk, h, show j + 1 - 1 = j from rfl, getD_lt (show j < l.length by omega)]
  simp
theorem factsB_bad {s : List Int} {l : List FactD} {k : Nat} (hk : k < l.length) (h : factsBad s l k = true) : factsB s l = false := by
  unfold factsB; rw [anyN_true hk h]; rfl
theorem factsB_end {s : List Int} {l : List FactD} {k : Nat} (hk : k = l.length) (H : ∀ j, j < k → factsBad s l j = false) : factsB s l = (schemaB s && decide ((l.length : Int) ≤ 24)) := by
  unfold factsB
  rw [anyN_false (fun j hj => H j (by omega))]
  have : decide (l.length ≤ 24) = decide ((l.length : Int) ≤ 24) := by rw [Bool.eq_iff_iff]; simp; omega
  rw [this]; simp
set_option maxRecDepth 100000 in
set_option maxHeartbeats 3200000 in
theorem specAreFacts_any (sv : Value) (s : List Int) (fs : List Nat) (v : Value) (l : List FactD) (f : List Nat) (w : World) (hs : ints w sv s fs) (h : facts w v l f) :
    Calls Tryz.prog 15 #[sv, v] w fun e w' => e = .returned (.bool (factsB s l)) ∧ Below w.heap.size w w' := by
  obtain ⟨a, cap, rfl⟩ := slR.form hs
  obtain ⟨b, cap', rfl⟩ := slR.form h
  have hla := slR.le_max h
  go_enter Tryz.func15, Tryz.ntmps15
  go_wp2
  go_loopw [5] (fun i wr => ∃ k : Nat, i = .int .i64 k ∧ k ≤ l.length ∧ Hid (∀ j, j < k → factsBad s l j = false) ∧ Below w.heap.size w wr) (fun i _ => l.length - (intOf i).toNat)
  case atStart => exact ⟨0, rfl, Nat.zero_le _, Lib.hid (fun j h0 => by omega), Below.refl _ _⟩
  case round =>
    obtain ⟨k, rfl, hk, HN, hbel⟩ := hrel
    by_cases hlt : k < l.length
    · obtain ⟨g, c, fi, hg, ⟨vv, rfl, vi, hv⟩, _, hc, _, _, _⟩ := slR.at (h.below' hbel) k hlt
      obtain ⟨a', c', rfl⟩ := slR.form hv
      have hc0 : wr.cell? ⟨g, k * 2, none⟩ = _ := hc 0 _ rfl
      have hc1 : wr.cell? ⟨g, k * 2 + 1, none⟩ = _ := hc 1 _ rfl
      have hsr := hs.below' hbel
      have hkl : (k : Int) < (l.length : Int) := by omega
      have hk0 : (0 : Int) ≤ (k : Int) := Int.natCast_nonneg _
      clear hc
      subst hg
      cases hp : factB s l[k] with
      | false =>
        have Hf := Lib.hid (factsB_bad hlt (factsBad_no hlt hp))
        have Lhc0 : ∀ x : Lat wr, x.wd.cell? ⟨g, k * 2, none⟩ = some (.int .i64 l[k].rel) := fun x => x.cell (hc0)
        have Lhc1 : ∀ x : Lat wr, x.wd.cell? ⟨g, k * 2 + 1, none⟩ = some (.slice a' l[k].vals.length c') := fun x => x.cell (hc1)
        have hsL : ∀ x : Lat wr, ints x.wd (.slice a s.length cap) s fs := fun x => hsr.below' x.ok
        have hvL : ∀ x : Lat wr, ints x.wd (.slice a' l[k].vals.length c') l[k].vals fi := fun x => hv.below' x.ok
        go_wp2_with fail
        refine wp_region_lat wr (by kernel_rfl) (by kernel_rfl) ?_
        repeat (go_big_quiet_step ((go_at_call 73; exact Lat.of (retBB (specIsFact_any _ s fs l[k] _ fi _ (hsL _) (hvL _)) hp))))
        refine wpQuiet_nil ?_
        intro _ hw'
        obtain ⟨x1, hw''⟩ := hw'
        subst hw''
        have hbx := bt hbel x1.ok
        go_wp2
        go_ret
        exact ⟨ret_bool (by rw [Hf.out]), hbx⟩
      | true =>
        cases k with
        | zero =>
          have HN2 := Lib.hid (anyN_step HN.out (factsBad_zero hlt hp))
          simp only [Nat.zero_mul, Nat.zero_add] at hc0 hc1
          have Lhc0 : ∀ x : Lat wr, x.wd.cell? ⟨g, 0, none⟩ = some (.int .i64 l[0].rel) := fun x => x.cell (hc0)
          have Lhc1 : ∀ x : Lat wr, x.wd.cell? ⟨g, 1, none⟩ = some (.slice a' l[0].vals.length c') := fun x => x.cell (hc1)
          have hsL : ∀ x : Lat wr, ints x.wd (.slice a s.length cap) s fs := fun x => hsr.below' x.ok
          have hvL : ∀ x : Lat wr, ints x.wd (.slice a' l[0].vals.length c') l[0].vals fi := fun x => hv.below' x.ok
          go_wp2_with fail
          refine wp_region_lat wr (by kernel_rfl) (by kernel_rfl) ?_
          repeat (go_big_quiet_step ((go_at_call 73; exact Lat.of (retBB (specIsFact_any _ s fs l[0] _ fi _ (hsL _) (hvL _)) hp))))
          refine wpQuiet_nil ?_
          intro _ hw'
          obtain ⟨x1, hw''⟩ := hw'
          subst hw''
          have hbx := bt hbel x1.ok
          go_wp2
          go_roundw
          case rel => exact ⟨1, by go_num, by omega, HN2, hbx⟩
          case measure => simp [intOf]; omega
        | succ j =>
          obtain ⟨g2, c2, fi2, hg2, ⟨vv2, rfl, vi2, hv2⟩, _, hd, _, _, _⟩ := slR.at (h.below' hbel) j (by omega)
          obtain ⟨a2, c2', rfl⟩ := slR.form hv2
          cases hg2
          have hd0 : wr.cell? ⟨g, j * 2, none⟩ = _ := hd 0 _ rfl
          have hd1 : wr.cell? ⟨g, j * 2 + 1, none⟩ = _ := hd 1 _ rfl
          clear hd
          have hlk := Lib.hid hlt
          have hpos : (0 : Int) < (j : Int) + 1 := by omega
          have hposd : decide ((0 : Int) < (j : Int) + 1) = true := decide_eq_true hpos
          have hge1 : (0 : Int) ≤ (j : Int) + 1 := by omega
          have hlt1 : (j : Int) + 1 < (l.length : Int) := by omega
          have hjl : (j : Int) < (l.length : Int) := by omega
          have hj0 : (0 : Int) ≤ (j : Int) := Int.natCast_nonneg _
          have htn : ((j : Int) + 1).toNat = j + 1 := by omega
          have hwj : IntKind.i64.wrap ((j : Int) + 1 - 1) = (j : Int) := by rw [show (j : Int) + 1 - 1 = (j : Int) by omega]; exact IntWalk.i64_in _ (by omega)
          have hwj2 : IntKind.i64.wrap (j : Int) = (j : Int) := IntWalk.i64_in _ (by omega)
          have Lhc0 : ∀ x : Lat wr, x.wd.cell? ⟨g, (j + 1) * 2, none⟩ = some (.int .i64 l[j + 1].rel) := fun x => x.cell (hc0)
          have Lhc1 : ∀ x : Lat wr, x.wd.cell? ⟨g, (j + 1) * 2 + 1, none⟩ = some (.slice a' l[j + 1].vals.length c') := fun x => x.cell (hc1)
          have Lhd0 : ∀ x : Lat wr, x.wd.cell? ⟨g, j * 2, none⟩ = some (.int .i64 l[j].rel) := fun x => x.cell (hd0)
          have Lhd1 : ∀ x : Lat wr, x.wd.cell? ⟨g, j * 2 + 1, none⟩ = some (.slice a2 l[j].vals.length c2') := fun x => x.cell (hd1)
          have hsL : ∀ x : Lat wr, ints x.wd (.slice a s.length cap) s fs := fun x => hsr.below' x.ok
          have hvL : ∀ x : Lat wr, ints x.wd (.slice a' l[j + 1].vals.length c') l[j + 1].vals fi := fun x => hv.below' x.ok
          have hv2L : ∀ x : Lat wr, ints x.wd (.slice a2 l[j].vals.length c2') l[j].vals fi2 := fun x => hv2.below' x.ok
          cases hq : decide (0 ≤ cmpFact l[j] l[j + 1]) with
          | true =>
            have Hf := Lib.hid (factsB_bad hlt ((factsBad_succ hlt hp).trans hq))
            go_wp2_with fail
            refine wp_region_lat wr (by kernel_rfl) (by kernel_rfl) ?_
            repeat (go_big_quiet_step ((first | (go_at_call 73; exact Lat.of (retBB (specIsFact_any _ s fs l[j + 1] _ fi _ (hsL _) (hvL _)) hp)) | (go_at_call 71; exact Lat.of (specCompareFacts_any l[j] l[j + 1] _ _ _ _ _ (hv2L _) (hvL _))))))
            refine wpQuiet_nil ?_
            intro _ hw'
            obtain ⟨x1, hw''⟩ := hw'
            subst hw''
            have hbx := bt hbel x1.ok
            go_wp2
            go_ret
            exact ⟨ret_bool (by rw [Hf.out]), hbx⟩
          | false =>
            have HN2 := Lib.hid (anyN_step HN.out ((factsBad_succ hlt hp).trans hq))
            go_wp2_with fail
            refine wp_region_lat wr (by kernel_rfl) (by kernel_rfl) ?_
            repeat (go_big_quiet_step ((first | (go_at_call 73; exact Lat.of (retBB (specIsFact_any _ s fs l[j + 1] _ fi _ (hsL _) (hvL _)) hp)) | (go_at_call 71; exact Lat.of (specCompareFacts_any l[j] l[j + 1] _ _ _ _ _ (hv2L _) (hvL _))))))
            refine wpQuiet_nil ?_
            intro _ hw'
            obtain ⟨x1, hw''⟩ := hw'
            subst hw''
            have hbx := bt hbel x1.ok
            go_wp2
            go_roundw
            case rel => exact ⟨j + 1 + 1, by go_num, by omega, HN2, hbx⟩
            case measure => simp [intOf]; omega
    · have hkl : k = l.length := by omega
      have Hn := Lib.hid (factsB_end (s := s) hkl HN.out)
      cases hsc : schemaB s with
      | false =>
        have Hf := Lib.hid (show factsB s l = false by rw [Hn.out, hsc]; rfl)
        go_wp2_with (go_at_call 78; refine (specIsSchema_any _ s fs _ (hs.below' hbel)).mono ?_; rintro e w' ⟨rfl, rfl⟩)
        go_ret
        exact ⟨ret_bool (by rw [Hf.out]), hbel⟩
      | true =>
        have Hf := Lib.hid (show factsB s l = decide ((l.length : Int) ≤ 24) by rw [Hn.out, hsc]; rfl)
        go_wp2_with (go_at_call 78; refine (specIsSchema_any _ s fs _ (hs.below' hbel)).mono ?_; rintro e w' ⟨rfl, rfl⟩)
        go_ret
        exact ⟨ret_bool (by rw [Hf.out]), hbel⟩
set_option maxRecDepth 100000 in
set_option maxHeartbeats 3200000 in
theorem implAreFacts_any (sv : Value) (s : List Int) (fs : List Nat) (v : Value) (l : List FactD) (f : List Nat) (w : World) (hs : ints w sv s fs) (h : facts w v l f) :
    Calls Tryz.prog 75 #[sv, v] w fun e w' => e = .returned (.bool (factsB s l)) ∧ Below w.heap.size w w' := by
  obtain ⟨a, cap, rfl⟩ := slR.form hs
  obtain ⟨b, cap', rfl⟩ := slR.form h
  have hla := slR.le_max h
  go_enter Tryz.func75, Tryz.ntmps75
  go_wp2
  go_loopw [9] (fun i wr => ∃ k : Nat, i = .int .i64 k ∧ k ≤ l.length ∧ Hid (∀ j, j < k → factsBad s l j = false) ∧ Below w.heap.size w wr) (fun i _ => l.length - (intOf i).toNat)
  case atStart => exact ⟨0, rfl, Nat.zero_le _, Lib.hid (fun j h0 => by omega), Below.refl _ _⟩
  case round =>
    obtain ⟨k, rfl, hk, HN, hbel⟩ := hrel
    by_cases hlt : k < l.length
    · obtain ⟨g, c, fi, hg, ⟨vv, rfl, vi, hv⟩, _, hc, _, _, _⟩ := slR.at (h.below' hbel) k hlt
      obtain ⟨a', c', rfl⟩ := slR.form hv
      have hc0 : wr.cell? ⟨g, k * 2, none⟩ = _ := hc 0 _ rfl
      have hc1 : wr.cell? ⟨g, k * 2 + 1, none⟩ = _ := hc 1 _ rfl
      have hsr := hs.below' hbel
      have hkl : (k : Int) < (l.length : Int) := by omega
      have hk0 : (0 : Int) ≤ (k : Int) := Int.natCast_nonneg _
      clear hc
      subst hg
      cases hp : factB s l[k] with
      | false =>
        have Hf := Lib.hid (factsB_bad hlt (factsBad_no hlt hp))
        have Lhc0 : ∀ x : Lat (wr.alloc (.cells #[.int .i64 l[k].rel, .slice a' l[k].vals.length c'] 79)), x.wd.cell? ⟨g, k * 2, none⟩ = some (.int .i64 l[k].rel) := fun x => x.cell (cell_al hc0 _)
        have Lhc1 : ∀ x : Lat (wr.alloc (.cells #[.int .i64 l[k].rel, .slice a' l[k].vals.length c'] 79)), x.wd.cell? ⟨g, k * 2 + 1, none⟩ = some (.slice a' l[k].vals.length c') := fun x => x.cell (cell_al hc1 _)
        have Lb0 : ∀ x : Lat (wr.alloc (.cells #[.int .i64 l[k].rel, .slice a' l[k].vals.length c'] 79)), x.wd.cell? ⟨wr.heap.size, 0, none⟩ = some (.int .i64 l[k].rel) := fun x => x.cell (cell_new _ _ _ 0 _ rfl)
        have Lb1 : ∀ x : Lat (wr.alloc (.cells #[.int .i64 l[k].rel, .slice a' l[k].vals.length c'] 79)), x.wd.cell? ⟨wr.heap.size, 1, none⟩ = some (.slice a' l[k].vals.length c') := fun x => x.cell (cell_new _ _ _ 1 _ rfl)
        have hsL : ∀ x : Lat (wr.alloc (.cells #[.int .i64 l[k].rel, .slice a' l[k].vals.length c'] 79)), ints x.wd (.slice a s.length cap) s fs := fun x => hsr.below' (bt (ba (Below.refl _ _)) x.ok)
        have hvL : ∀ x : Lat (wr.alloc (.cells #[.int .i64 l[k].rel, .slice a' l[k].vals.length c'] 79)), ints x.wd (.slice a' l[k].vals.length c') l[k].vals fi := fun x => hv.below' (bt (ba (Below.refl _ _)) x.ok)
        go_wp2_with fail
        refine wp_region_lat (wr.alloc (.cells #[.int .i64 l[k].rel, .slice a' l[k].vals.length c'] 79)) (by kernel_rfl) (by kernel_rfl) ?_
        repeat (go_big_quiet_step ((go_at_call 74; exact Lat.of (retBB (implIsFact_any _ s fs l[k] _ fi _ (hsL _) (hvL _)) hp))))
        refine wpQuiet_nil ?_
        intro _ hw'
        obtain ⟨x1, hw''⟩ := hw'
        subst hw''
        have hbx := bt (ba hbel) x1.ok
        go_wp2
        go_ret
        exact ⟨ret_bool (by rw [Hf.out]), hbx⟩
      | true =>
        cases k with
        | zero =>
          have HN2 := Lib.hid (anyN_step HN.out (factsBad_zero hlt hp))
          simp only [Nat.zero_mul, Nat.zero_add] at hc0 hc1
          have Lhc0 : ∀ x : Lat (wr.alloc (.cells #[.int .i64 l[0].rel, .slice a' l[0].vals.length c'] 79)), x.wd.cell? ⟨g, 0, none⟩ = some (.int .i64 l[0].rel) := fun x => x.cell (cell_al hc0 _)
          have Lhc1 : ∀ x : Lat (wr.alloc (.cells #[.int .i64 l[0].rel, .slice a' l[0].vals.length c'] 79)), x.wd.cell? ⟨g, 1, none⟩ = some (.slice a' l[0].vals.length c') := fun x => x.cell (cell_al hc1 _)
          have Lb0 : ∀ x : Lat (wr.alloc (.cells #[.int .i64 l[0].rel, .slice a' l[0].vals.length c'] 79)), x.wd.cell? ⟨wr.heap.size, 0, none⟩ = some (.int .i64 l[0].rel) := fun x => x.cell (cell_new _ _ _ 0 _ rfl)
          have Lb1 : ∀ x : Lat (wr.alloc (.cells #[.int .i64 l[0].rel, .slice a' l[0].vals.length c'] 79)), x.wd.cell? ⟨wr.heap.size, 1, none⟩ = some (.slice a' l[0].vals.length c') := fun x => x.cell (cell_new _ _ _ 1 _ rfl)
          have hsL : ∀ x : Lat (wr.alloc (.cells #[.int .i64 l[0].rel, .slice a' l[0].vals.length c'] 79)), ints x.wd (.slice a s.length cap) s fs := fun x => hsr.below' (bt (ba (Below.refl _ _)) x.ok)
          have hvL : ∀ x : Lat (wr.alloc (.cells #[.int .i64 l[0].rel, .slice a' l[0].vals.length c'] 79)), ints x.wd (.slice a' l[0].vals.length c') l[0].vals fi := fun x => hv.below' (bt (ba (Below.refl _ _)) x.ok)
          go_wp2_with fail
          refine wp_region_lat (wr.alloc (.cells #[.int .i64 l[0].rel, .slice a' l[0].vals.length c'] 79)) (by kernel_rfl) (by kernel_rfl) ?_
          repeat (go_big_quiet_step ((go_at_call 74; exact Lat.of (retBB (implIsFact_any _ s fs l[0] _ fi _ (hsL _) (hvL _)) hp))))
          refine wpQuiet_nil ?_
          intro _ hw'
          obtain ⟨x1, hw''⟩ := hw'
          subst hw''
          have hbx := bt (ba hbel) x1.ok
          go_wp2
          go_roundw
          case rel => exact ⟨1, by go_num, by omega, HN2, hbx⟩
          case measure => simp [intOf]; omega
        | succ j =>
          obtain ⟨g2, c2, fi2, hg2, ⟨vv2, rfl, vi2, hv2⟩, _, hd, _, _, _⟩ := slR.at (h.below' hbel) j (by omega)
          obtain ⟨a2, c2', rfl⟩ := slR.form hv2
          cases hg2
          have hd0 : wr.cell? ⟨g, j * 2, none⟩ = _ := hd 0 _ rfl
          have hd1 : wr.cell? ⟨g, j * 2 + 1, none⟩ = _ := hd 1 _ rfl
          clear hd
          have hlk := Lib.hid hlt
          have hpos : (0 : Int) < (j : Int) + 1 := by omega
          have hposd : decide ((0 : Int) < (j : Int) + 1) = true := decide_eq_true hpos
          have hge1 : (0 : Int) ≤ (j : Int) + 1 := by omega
          have hlt1 : (j : Int) + 1 < (l.length : Int) := by omega
          have hjl : (j : Int) < (l.length : Int) := by omega
          have hj0 : (0 : Int) ≤ (j : Int) := Int.natCast_nonneg _
          have htn : ((j : Int) + 1).toNat = j + 1 := by omega
          have hwj : IntKind.i64.wrap ((j : Int) + 1 - 1) = (j : Int) := by rw [show (j : Int) + 1 - 1 = (j : Int) by omega]; exact IntWalk.i64_in _ (by omega)
          have hwj2 : IntKind.i64.wrap (j : Int) = (j : Int) := IntWalk.i64_in _ (by omega)
          have Lhc0 : ∀ x : Lat (wr.alloc (.cells #[.int .i64 l[j + 1].rel, .slice a' l[j + 1].vals.length c'] 79)), x.wd.cell? ⟨g, (j + 1) * 2, none⟩ = some (.int .i64 l[j + 1].rel) := fun x => x.cell (cell_al hc0 _)
          have Lhc1 : ∀ x : Lat (wr.alloc (.cells #[.int .i64 l[j + 1].rel, .slice a' l[j + 1].vals.length c'] 79)), x.wd.cell? ⟨g, (j + 1) * 2 + 1, none⟩ = some (.slice a' l[j + 1].vals.length c') := fun x => x.cell (cell_al hc1 _)
          have Lhd0 : ∀ x : Lat (wr.alloc (.cells #[.int .i64 l[j + 1].rel, .slice a' l[j + 1].vals.length c'] 79)), x.wd.cell? ⟨g, j * 2, none⟩ = some (.int .i64 l[j].rel) := fun x => x.cell (cell_al hd0 _)
          have Lhd1 : ∀ x : Lat (wr.alloc (.cells #[.int .i64 l[j + 1].rel, .slice a' l[j + 1].vals.length c'] 79)), x.wd.cell? ⟨g, j * 2 + 1, none⟩ = some (.slice a2 l[j].vals.length c2') := fun x => x.cell (cell_al hd1 _)
          have Lb0 : ∀ x : Lat (wr.alloc (.cells #[.int .i64 l[j + 1].rel, .slice a' l[j + 1].vals.length c'] 79)), x.wd.cell? ⟨wr.heap.size, 0, none⟩ = some (.int .i64 l[j + 1].rel) := fun x => x.cell (cell_new _ _ _ 0 _ rfl)
          have Lb1 : ∀ x : Lat (wr.alloc (.cells #[.int .i64 l[j + 1].rel, .slice a' l[j + 1].vals.length c'] 79)), x.wd.cell? ⟨wr.heap.size, 1, none⟩ = some (.slice a' l[j + 1].vals.length c') := fun x => x.cell (cell_new _ _ _ 1 _ rfl)
          have hsL : ∀ x : Lat (wr.alloc (.cells #[.int .i64 l[j + 1].rel, .slice a' l[j + 1].vals.length c'] 79)), ints x.wd (.slice a s.length cap) s fs := fun x => hsr.below' (bt (ba (Below.refl _ _)) x.ok)
          have hvL : ∀ x : Lat (wr.alloc (.cells #[.int .i64 l[j + 1].rel, .slice a' l[j + 1].vals.length c'] 79)), ints x.wd (.slice a' l[j + 1].vals.length c') l[j + 1].vals fi := fun x => hv.below' (bt (ba (Below.refl _ _)) x.ok)
          have hv2L : ∀ x : Lat (wr.alloc (.cells #[.int .i64 l[j + 1].rel, .slice a' l[j + 1].vals.length c'] 79)), ints x.wd (.slice a2 l[j].vals.length c2') l[j].vals fi2 := fun x => hv2.below' (bt (ba (Below.refl _ _)) x.ok)
          cases hq : decide (0 ≤ cmpFact l[j] l[j + 1]) with
          | true =>
            have Hf := Lib.hid (factsB_bad hlt ((factsBad_succ hlt hp).trans hq))
            go_wp2_with fail
            refine wp_region_lat (wr.alloc (.cells #[.int .i64 l[j + 1].rel, .slice a' l[j + 1].vals.length c'] 79)) (by kernel_rfl) (by kernel_rfl) ?_
            repeat (go_big_quiet_step ((first | (go_at_call 74; exact Lat.of (retBB (implIsFact_any _ s fs l[j + 1] _ fi _ (hsL _) (hvL _)) hp)) | (go_at_call 70; exact Lat.of (implCompareFacts_any l[j] l[j + 1] _ _ _ _ _ (hv2L _) (hvL _))))))
            refine wpQuiet_nil ?_
            intro _ hw'
            obtain ⟨x1, hw''⟩ := hw'
            subst hw''
            have hbx := bt (ba hbel) x1.ok
            go_wp2
            go_ret
            exact ⟨ret_bool (by rw [Hf.out]), hbx⟩
          | false =>
            have HN2 := Lib.hid (anyN_step HN.out ((factsBad_succ hlt hp).trans hq))
            go_wp2_with fail
            refine wp_region_lat (wr.alloc (.cells #[.int .i64 l[j + 1].rel, .slice a' l[j + 1].vals.length c'] 79)) (by kernel_rfl) (by kernel_rfl) ?_
            repeat (go_big_quiet_step ((first | (go_at_call 74; exact Lat.of (retBB (implIsFact_any _ s fs l[j + 1] _ fi _ (hsL _) (hvL _)) hp)) | (go_at_call 70; exact Lat.of (implCompareFacts_any l[j] l[j + 1] _ _ _ _ _ (hv2L _) (hvL _))))))
            refine wpQuiet_nil ?_
            intro _ hw'
            obtain ⟨x1, hw''⟩ := hw'
            subst hw''
            have hbx := bt (ba hbel) x1.ok
            go_wp2
            go_roundw
            case rel => exact ⟨j + 1 + 1, by go_num, by omega, HN2, hbx⟩
            case measure => simp [intOf]; omega
    · have hkl : k = l.length := by omega
      have Hn := Lib.hid (factsB_end (s := s) hkl HN.out)
      cases hsc : schemaB s with
      | false =>
        have Hf := Lib.hid (show factsB s l = false by rw [Hn.out, hsc]; rfl)
        go_wp2_with (go_at_call 77; refine (implIsSchema_any _ s fs _ (hs.below' hbel)).mono ?_; rintro e w' ⟨rfl, rfl⟩)
        go_ret
        exact ⟨ret_bool (by rw [Hf.out]), hbel⟩
      | true =>
        have Hf := Lib.hid (show factsB s l = decide ((l.length : Int) ≤ 24) by rw [Hn.out, hsc]; rfl)
        go_wp2_with (go_at_call 77; refine (implIsSchema_any _ s fs _ (hs.below' hbel)).mono ?_; rintro e w' ⟨rfl, rfl⟩)
        go_ret
        exact ⟨ret_bool (by rw [Hf.out]), hbel⟩
end Go.Proofs.YtpdmdfkcaabnaaaGreatDoor
