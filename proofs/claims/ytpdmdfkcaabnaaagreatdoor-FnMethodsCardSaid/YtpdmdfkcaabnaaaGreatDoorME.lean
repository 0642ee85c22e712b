/- Several of my texts as one: AreFO, IsResp, IsRespO, MeL, SameF, ParMI. -/
import Derived.Test.YtpdmdfkcaabnaaaGreatDoorAreFacts
import Derived.Test.YtpdmdfkcaabnaaaGreatDoorMF
import Derived.Test.YtpdmdfkcaabnaaaGreatDoorHas
import Derived.Test.YtpdmdfkcaabnaaaGreatDoorFaL
import Derived.Test.YtpdmdfkcaabnaaaGreatDoorIdxS
import Derived.Test.YtpdmdfkcaabnaaaGreatDoorCompare
import Derived.Test.YtpdmdfkcaabnaaaGreatDoorCmpFact
import Derived.Test.YtpdmdfkcaabnaaaGreatDoorMP
/- AreFacts of both at a list of facts whose first element has been cut off. No condition. -/
namespace Go.Proofs.YtpdmdfkcaabnaaaGreatDoor
open Go.RowKit
set_option linter.unusedVariables false
set_option linter.unusedSimpArgs false
theorem facts_at1 {w : World} {g0 n q0 : Nat} {x0 : FactD} {l : List FactD} {f : List Nat} (h : facts w (.slice (some ⟨g0, 0, none⟩) n q0) (x0 :: l) f) (k : Nat) (hk : k < l.length) :
    ∃ c fi, factR w c l[k] fi ∧ c.length = 2 ∧ (∀ j u, c[j]? = some u → w.cell? ⟨g0, 2 + k * 2 + j, none⟩ = some u) ∧ True ∧ True ∧ ∀ x ∈ fi, x ∈ f := by
  obtain ⟨g, c, fi, hg, hR, hl, hc, _, _, hf⟩ := slR.at h (k + 1) (by simp; omega)
  cases hg
  refine ⟨c, fi, by simpa using hR, hl, fun j u hj => ?_, trivial, trivial, hf⟩
  have h1 := hc j u hj
  rw [show 2 + k * 2 + j = (k + 1) * 2 + j by omega]
  exact h1
set_option maxRecDepth 100000 in
set_option maxHeartbeats 3200000 in
theorem specAreFactsO_any (sv : Value) (s : List Int) (fs : List Nat) (g0 q0 cq : Nat) (x0 : FactD) (l : List FactD) (f : List Nat) (w : World) (hs : ints w sv s fs) (h : facts w (.slice (some ⟨g0, 0, none⟩) (l.length + 1) q0) (x0 :: l) f) :
    Calls Tryz.prog 15 #[sv, .slice (some ⟨g0, 2, none⟩) l.length cq] w fun e w' => e = .returned (.bool (factsB s l)) ∧ Below w.heap.size w w' := by
  obtain ⟨a, cap, rfl⟩ := slR.form hs
  have hla : l.length ≤ 9223372036854775807 := by have := slR.le_max h; simp only [List.length_cons] at this; omega
  go_enter Tryz.func15, Tryz.ntmps15
  go_wp2
  go_loopw [5] (fun i wr => ∃ k : Nat, i = .int .i64 k ∧ k ≤ l.length ∧ Hid (∀ j, j < k → factsBad s l j = false) ∧ Below w.heap.size w wr) (fun i _ => l.length - (intOf i).toNat)
  case atStart => exact ⟨0, rfl, Nat.zero_le _, Lib.hid (fun j h0 => by omega), Below.refl _ _⟩
  case round =>
    obtain ⟨k, rfl, hk, HN, hbel⟩ := hrel
    by_cases hlt : k < l.length
    · obtain ⟨c, fi, ⟨vv, rfl, vi, hv⟩, _, hc, _, _, _⟩ := facts_at1 (facts.below' h hbel) k hlt
      obtain ⟨a', c', rfl⟩ := slR.form hv
      have hc0 : wr.cell? ⟨g0, 2 + k * 2, none⟩ = _ := hc 0 _ rfl
      have hc1 : wr.cell? ⟨g0, 2 + k * 2 + 1, none⟩ = _ := hc 1 _ rfl
      have hsr := hs.below' hbel
      have hkl : (k : Int) < (l.length : Int) := by omega
      have hk0 : (0 : Int) ≤ (k : Int) := Int.natCast_nonneg _
      clear hc
      cases hp : factB s l[k] with
      | false =>
        have Hf := Lib.hid (factsB_bad hlt (factsBad_no hlt hp))
        have Lhc0 : ∀ x : Lat wr, x.wd.cell? ⟨g0, 2 + k * 2, none⟩ = some (.int .i64 l[k].rel) := fun x => x.cell (hc0)
        have Lhc1 : ∀ x : Lat wr, x.wd.cell? ⟨g0, 2 + k * 2 + 1, none⟩ = some (.slice a' l[k].vals.length c') := fun x => x.cell (hc1)
        have hsL : ∀ x : Lat wr, ints x.wd (.slice a s.length cap) s fs := fun x => hsr.below' x.ok
        have hvL : ∀ x : Lat wr, ints x.wd (.slice a' l[k].vals.length c') l[k].vals fi := fun x => hv.below' x.ok
        go_wp2_with fail
        refine wp_region_lat wr (by kernel_rfl) (by kernel_rfl) ?_
        repeat (go_big_quiet_step ((go_at_call 73; exact Lat.of (retBB (specIsFact_any _ s fs l[k] _ fi _ (hsL _) (hvL _)) hp))))
        refine wpQuiet_nil ?_
        intro _ hw'
        obtain ⟨x1, hw''⟩ := hw'
        subst hw''
        have hbx := bt hbel x1.ok
        go_wp2
        go_ret
        exact ⟨ret_bool (by rw [Hf.out]), hbx⟩
      | true =>
        cases k with
        | zero =>
          have HN2 := Lib.hid (anyN_step HN.out (factsBad_zero hlt hp))
          simp only [Nat.zero_mul, Nat.add_zero] at hc0 hc1
          have Lhc0 : ∀ x : Lat wr, x.wd.cell? ⟨g0, 2, none⟩ = some (.int .i64 l[0].rel) := fun x => x.cell (hc0)
          have Lhc1 : ∀ x : Lat wr, x.wd.cell? ⟨g0, 3, none⟩ = some (.slice a' l[0].vals.length c') := fun x => x.cell (hc1)
          have hsL : ∀ x : Lat wr, ints x.wd (.slice a s.length cap) s fs := fun x => hsr.below' x.ok
          have hvL : ∀ x : Lat wr, ints x.wd (.slice a' l[0].vals.length c') l[0].vals fi := fun x => hv.below' x.ok
          go_wp2_with fail
          refine wp_region_lat wr (by kernel_rfl) (by kernel_rfl) ?_
          repeat (go_big_quiet_step ((go_at_call 73; exact Lat.of (retBB (specIsFact_any _ s fs l[0] _ fi _ (hsL _) (hvL _)) hp))))
          refine wpQuiet_nil ?_
          intro _ hw'
          obtain ⟨x1, hw''⟩ := hw'
          subst hw''
          have hbx := bt hbel x1.ok
          go_wp2
          go_roundw
          case rel => exact ⟨1, by go_num, by omega, HN2, hbx⟩
          case measure => simp [intOf]; omega
        | succ j =>
          obtain ⟨c2, fi2, ⟨vv2, rfl, vi2, hv2⟩, _, hd, _, _, _⟩ := facts_at1 (facts.below' h hbel) j (by omega)
          obtain ⟨a2, c2', rfl⟩ := slR.form hv2
          have hd0 : wr.cell? ⟨g0, 2 + j * 2, none⟩ = _ := hd 0 _ rfl
          have hd1 : wr.cell? ⟨g0, 2 + j * 2 + 1, none⟩ = _ := hd 1 _ rfl
          clear hd
          have hlk := Lib.hid hlt
          have hpos : (0 : Int) < (j : Int) + 1 := by omega
          have hposd : decide ((0 : Int) < (j : Int) + 1) = true := decide_eq_true hpos
          have hge1 : (0 : Int) ≤ (j : Int) + 1 := by omega
          have hlt1 : (j : Int) + 1 < (l.length : Int) := by omega
          have hjl : (j : Int) < (l.length : Int) := by omega
          have hj0 : (0 : Int) ≤ (j : Int) := Int.natCast_nonneg _
          have htn : ((j : Int) + 1).toNat = j + 1 := by omega
          have hwj : IntKind.i64.wrap ((j : Int) + 1 - 1) = (j : Int) := by rw [show (j : Int) + 1 - 1 = (j : Int) by omega]; exact IntWalk.i64_in _ (by omega)
          have hwj2 : IntKind.i64.wrap (j : Int) = (j : Int) := IntWalk.i64_in _ (by omega)
          have Lhc0 : ∀ x : Lat wr, x.wd.cell? ⟨g0, 2 + (j + 1) * 2, none⟩ = some (.int .i64 l[j + 1].rel) := fun x => x.cell (hc0)
          have Lhc1 : ∀ x : Lat wr, x.wd.cell? ⟨g0, 2 + (j + 1) * 2 + 1, none⟩ = some (.slice a' l[j + 1].vals.length c') := fun x => x.cell (hc1)
          have Lhd0 : ∀ x : Lat wr, x.wd.cell? ⟨g0, 2 + j * 2, none⟩ = some (.int .i64 l[j].rel) := fun x => x.cell (hd0)
          have Lhd1 : ∀ x : Lat wr, x.wd.cell? ⟨g0, 2 + j * 2 + 1, none⟩ = some (.slice a2 l[j].vals.length c2') := fun x => x.cell (hd1)
          have hsL : ∀ x : Lat wr, ints x.wd (.slice a s.length cap) s fs := fun x => hsr.below' x.ok
          have hvL : ∀ x : Lat wr, ints x.wd (.slice a' l[j + 1].vals.length c') l[j + 1].vals fi := fun x => hv.below' x.ok
          have hv2L : ∀ x : Lat wr, ints x.wd (.slice a2 l[j].vals.length c2') l[j].vals fi2 := fun x => hv2.below' x.ok
          cases hq : decide (0 ≤ cmpFact l[j] l[j + 1]) with
          | true =>
            have Hf := Lib.hid (factsB_bad hlt ((factsBad_succ hlt hp).trans hq))
            go_wp2_with fail
            refine wp_region_lat wr (by kernel_rfl) (by kernel_rfl) ?_
            repeat (go_big_quiet_step ((first | (go_at_call 73; exact Lat.of (retBB (specIsFact_any _ s fs l[j + 1] _ fi _ (hsL _) (hvL _)) hp)) | (go_at_call 71; exact Lat.of (specCompareFacts_any l[j] l[j + 1] _ _ _ _ _ (hv2L _) (hvL _))))))
            refine wpQuiet_nil ?_
            intro _ hw'
            obtain ⟨x1, hw''⟩ := hw'
            subst hw''
            have hbx := bt hbel x1.ok
            go_wp2
            go_ret
            exact ⟨ret_bool (by rw [Hf.out]), hbx⟩
          | false =>
            have HN2 := Lib.hid (anyN_step HN.out ((factsBad_succ hlt hp).trans hq))
            go_wp2_with fail
            refine wp_region_lat wr (by kernel_rfl) (by kernel_rfl) ?_
            repeat (go_big_quiet_step ((first | (go_at_call 73; exact Lat.of (retBB (specIsFact_any _ s fs l[j + 1] _ fi _ (hsL _) (hvL _)) hp)) | (go_at_call 71; exact Lat.of (specCompareFacts_any l[j] l[j + 1] _ _ _ _ _ (hv2L _) (hvL _))))))
            refine wpQuiet_nil ?_
            intro _ hw'
            obtain ⟨x1, hw''⟩ := hw'
            subst hw''
            have hbx := bt hbel x1.ok
            go_wp2
            go_roundw
            case rel => exact ⟨j + 1 + 1, by go_num, by omega, HN2, hbx⟩
            case measure => simp [intOf]; omega
    · have hkl : k = l.length := by omega
      have Hn := Lib.hid (factsB_end (s := s) hkl HN.out)
      cases hsc : schemaB s with
      | false =>
        have Hf := Lib.hid (show factsB s l = false by rw [Hn.out, hsc]; rfl)
        go_wp2_with (go_at_call 78; refine (specIsSchema_any _ s fs _ (hs.below' hbel)).mono ?_; rintro e w' ⟨rfl, rfl⟩)
        go_ret
        exact ⟨ret_bool (by rw [Hf.out]), hbel⟩
      | true =>
        have Hf := Lib.hid (show factsB s l = decide ((l.length : Int) ≤ 24) by rw [Hn.out, hsc]; rfl)
        go_wp2_with (go_at_call 78; refine (specIsSchema_any _ s fs _ (hs.below' hbel)).mono ?_; rintro e w' ⟨rfl, rfl⟩)
        go_ret
        exact ⟨ret_bool (by rw [Hf.out]), hbel⟩
set_option maxRecDepth 100000 in
set_option maxHeartbeats 3200000 in
theorem implAreFactsO_any (sv : Value) (s : List Int) (fs : List Nat) (g0 q0 cq : Nat) (x0 : FactD) (l : List FactD) (f : List Nat) (w : World) (hs : ints w sv s fs) (h : facts w (.slice (some ⟨g0, 0, none⟩) (l.length + 1) q0) (x0 :: l) f) :
    Calls Tryz.prog 75 #[sv, .slice (some ⟨g0, 2, none⟩) l.length cq] w fun e w' => e = .returned (.bool (factsB s l)) ∧ Below w.heap.size w w' := by
  obtain ⟨a, cap, rfl⟩ := slR.form hs
  have hla : l.length ≤ 9223372036854775807 := by have := slR.le_max h; simp only [List.length_cons] at this; omega
  go_enter Tryz.func75, Tryz.ntmps75
  go_wp2
  go_loopw [9] (fun i wr => ∃ k : Nat, i = .int .i64 k ∧ k ≤ l.length ∧ Hid (∀ j, j < k → factsBad s l j = false) ∧ Below w.heap.size w wr) (fun i _ => l.length - (intOf i).toNat)
  case atStart => exact ⟨0, rfl, Nat.zero_le _, Lib.hid (fun j h0 => by omega), Below.refl _ _⟩
  case round =>
    obtain ⟨k, rfl, hk, HN, hbel⟩ := hrel
    by_cases hlt : k < l.length
    · obtain ⟨c, fi, ⟨vv, rfl, vi, hv⟩, _, hc, _, _, _⟩ := facts_at1 (facts.below' h hbel) k hlt
      obtain ⟨a', c', rfl⟩ := slR.form hv
      have hc0 : wr.cell? ⟨g0, 2 + k * 2, none⟩ = _ := hc 0 _ rfl
      have hc1 : wr.cell? ⟨g0, 2 + k * 2 + 1, none⟩ = _ := hc 1 _ rfl
      have hsr := hs.below' hbel
      have hkl : (k : Int) < (l.length : Int) := by omega
      have hk0 : (0 : Int) ≤ (k : Int) := Int.natCast_nonneg _
      clear hc
      cases hp : factB s l[k] with
      | false =>
        have Hf := Lib.hid (factsB_bad hlt (factsBad_no hlt hp))
        have Lhc0 : ∀ x : Lat (wr.alloc (.cells #[.int .i64 l[k].rel, .slice a' l[k].vals.length c'] 79)), x.wd.cell? ⟨g0, 2 + k * 2, none⟩ = some (.int .i64 l[k].rel) := fun x => x.cell (cell_al hc0 _)
        have Lhc1 : ∀ x : Lat (wr.alloc (.cells #[.int .i64 l[k].rel, .slice a' l[k].vals.length c'] 79)), x.wd.cell? ⟨g0, 2 + k * 2 + 1, none⟩ = some (.slice a' l[k].vals.length c') := fun x => x.cell (cell_al hc1 _)
        have Lb0 : ∀ x : Lat (wr.alloc (.cells #[.int .i64 l[k].rel, .slice a' l[k].vals.length c'] 79)), x.wd.cell? ⟨wr.heap.size, 0, none⟩ = some (.int .i64 l[k].rel) := fun x => x.cell (cell_new _ _ _ 0 _ rfl)
        have Lb1 : ∀ x : Lat (wr.alloc (.cells #[.int .i64 l[k].rel, .slice a' l[k].vals.length c'] 79)), x.wd.cell? ⟨wr.heap.size, 1, none⟩ = some (.slice a' l[k].vals.length c') := fun x => x.cell (cell_new _ _ _ 1 _ rfl)
        have hsL : ∀ x : Lat (wr.alloc (.cells #[.int .i64 l[k].rel, .slice a' l[k].vals.length c'] 79)), ints x.wd (.slice a s.length cap) s fs := fun x => hsr.below' (bt (ba (Below.refl _ _)) x.ok)
        have hvL : ∀ x : Lat (wr.alloc (.cells #[.int .i64 l[k].rel, .slice a' l[k].vals.length c'] 79)), ints x.wd (.slice a' l[k].vals.length c') l[k].vals fi := fun x => hv.below' (bt (ba (Below.refl _ _)) x.ok)
        go_wp2_with fail
        refine wp_region_lat (wr.alloc (.cells #[.int .i64 l[k].rel, .slice a' l[k].vals.length c'] 79)) (by kernel_rfl) (by kernel_rfl) ?_
        repeat (go_big_quiet_step ((go_at_call 74; exact Lat.of (retBB (implIsFact_any _ s fs l[k] _ fi _ (hsL _) (hvL _)) hp))))
        refine wpQuiet_nil ?_
        intro _ hw'
        obtain ⟨x1, hw''⟩ := hw'
        subst hw''
        have hbx := bt (ba hbel) x1.ok
        go_wp2
        go_ret
        exact ⟨ret_bool (by rw [Hf.out]), hbx⟩
      | true =>
        cases k with
        | zero =>
          have HN2 := Lib.hid (anyN_step HN.out (factsBad_zero hlt hp))
          simp only [Nat.zero_mul, Nat.add_zero] at hc0 hc1
          have Lhc0 : ∀ x : Lat (wr.alloc (.cells #[.int .i64 l[0].rel, .slice a' l[0].vals.length c'] 79)), x.wd.cell? ⟨g0, 2, none⟩ = some (.int .i64 l[0].rel) := fun x => x.cell (cell_al hc0 _)
          have Lhc1 : ∀ x : Lat (wr.alloc (.cells #[.int .i64 l[0].rel, .slice a' l[0].vals.length c'] 79)), x.wd.cell? ⟨g0, 3, none⟩ = some (.slice a' l[0].vals.length c') := fun x => x.cell (cell_al hc1 _)
          have Lb0 : ∀ x : Lat (wr.alloc (.cells #[.int .i64 l[0].rel, .slice a' l[0].vals.length c'] 79)), x.wd.cell? ⟨wr.heap.size, 0, none⟩ = some (.int .i64 l[0].rel) := fun x => x.cell (cell_new _ _ _ 0 _ rfl)
          have Lb1 : ∀ x : Lat (wr.alloc (.cells #[.int .i64 l[0].rel, .slice a' l[0].vals.length c'] 79)), x.wd.cell? ⟨wr.heap.size, 1, none⟩ = some (.slice a' l[0].vals.length c') := fun x => x.cell (cell_new _ _ _ 1 _ rfl)
          have hsL : ∀ x : Lat (wr.alloc (.cells #[.int .i64 l[0].rel, .slice a' l[0].vals.length c'] 79)), ints x.wd (.slice a s.length cap) s fs := fun x => hsr.below' (bt (ba (Below.refl _ _)) x.ok)
          have hvL : ∀ x : Lat (wr.alloc (.cells #[.int .i64 l[0].rel, .slice a' l[0].vals.length c'] 79)), ints x.wd (.slice a' l[0].vals.length c') l[0].vals fi := fun x => hv.below' (bt (ba (Below.refl _ _)) x.ok)
          go_wp2_with fail
          refine wp_region_lat (wr.alloc (.cells #[.int .i64 l[0].rel, .slice a' l[0].vals.length c'] 79)) (by kernel_rfl) (by kernel_rfl) ?_
          repeat (go_big_quiet_step ((go_at_call 74; exact Lat.of (retBB (implIsFact_any _ s fs l[0] _ fi _ (hsL _) (hvL _)) hp))))
          refine wpQuiet_nil ?_
          intro _ hw'
          obtain ⟨x1, hw''⟩ := hw'
          subst hw''
          have hbx := bt (ba hbel) x1.ok
          go_wp2
          go_roundw
          case rel => exact ⟨1, by go_num, by omega, HN2, hbx⟩
          case measure => simp [intOf]; omega
        | succ j =>
          obtain ⟨c2, fi2, ⟨vv2, rfl, vi2, hv2⟩, _, hd, _, _, _⟩ := facts_at1 (facts.below' h hbel) j (by omega)
          obtain ⟨a2, c2', rfl⟩ := slR.form hv2
          have hd0 : wr.cell? ⟨g0, 2 + j * 2, none⟩ = _ := hd 0 _ rfl
          have hd1 : wr.cell? ⟨g0, 2 + j * 2 + 1, none⟩ = _ := hd 1 _ rfl
          clear hd
          have hlk := Lib.hid hlt
          have hpos : (0 : Int) < (j : Int) + 1 := by omega
          have hposd : decide ((0 : Int) < (j : Int) + 1) = true := decide_eq_true hpos
          have hge1 : (0 : Int) ≤ (j : Int) + 1 := by omega
          have hlt1 : (j : Int) + 1 < (l.length : Int) := by omega
          have hjl : (j : Int) < (l.length : Int) := by omega
          have hj0 : (0 : Int) ≤ (j : Int) := Int.natCast_nonneg _
          have htn : ((j : Int) + 1).toNat = j + 1 := by omega
          have hwj : IntKind.i64.wrap ((j : Int) + 1 - 1) = (j : Int) := by rw [show (j : Int) + 1 - 1 = (j : Int) by omega]; exact IntWalk.i64_in _ (by omega)
          have hwj2 : IntKind.i64.wrap (j : Int) = (j : Int) := IntWalk.i64_in _ (by omega)
          have Lhc0 : ∀ x : Lat (wr.alloc (.cells #[.int .i64 l[j + 1].rel, .slice a' l[j + 1].vals.length c'] 79)), x.wd.cell? ⟨g0, 2 + (j + 1) * 2, none⟩ = some (.int .i64 l[j + 1].rel) := fun x => x.cell (cell_al hc0 _)
          have Lhc1 : ∀ x : Lat (wr.alloc (.cells #[.int .i64 l[j + 1].rel, .slice a' l[j + 1].vals.length c'] 79)), x.wd.cell? ⟨g0, 2 + (j + 1) * 2 + 1, none⟩ = some (.slice a' l[j + 1].vals.length c') := fun x => x.cell (cell_al hc1 _)
          have Lhd0 : ∀ x : Lat (wr.alloc (.cells #[.int .i64 l[j + 1].rel, .slice a' l[j + 1].vals.length c'] 79)), x.wd.cell? ⟨g0, 2 + j * 2, none⟩ = some (.int .i64 l[j].rel) := fun x => x.cell (cell_al hd0 _)
          have Lhd1 : ∀ x : Lat (wr.alloc (.cells #[.int .i64 l[j + 1].rel, .slice a' l[j + 1].vals.length c'] 79)), x.wd.cell? ⟨g0, 2 + j * 2 + 1, none⟩ = some (.slice a2 l[j].vals.length c2') := fun x => x.cell (cell_al hd1 _)
          have Lb0 : ∀ x : Lat (wr.alloc (.cells #[.int .i64 l[j + 1].rel, .slice a' l[j + 1].vals.length c'] 79)), x.wd.cell? ⟨wr.heap.size, 0, none⟩ = some (.int .i64 l[j + 1].rel) := fun x => x.cell (cell_new _ _ _ 0 _ rfl)
          have Lb1 : ∀ x : Lat (wr.alloc (.cells #[.int .i64 l[j + 1].rel, .slice a' l[j + 1].vals.length c'] 79)), x.wd.cell? ⟨wr.heap.size, 1, none⟩ = some (.slice a' l[j + 1].vals.length c') := fun x => x.cell (cell_new _ _ _ 1 _ rfl)
          have hsL : ∀ x : Lat (wr.alloc (.cells #[.int .i64 l[j + 1].rel, .slice a' l[j + 1].vals.length c'] 79)), ints x.wd (.slice a s.length cap) s fs := fun x => hsr.below' (bt (ba (Below.refl _ _)) x.ok)
          have hvL : ∀ x : Lat (wr.alloc (.cells #[.int .i64 l[j + 1].rel, .slice a' l[j + 1].vals.length c'] 79)), ints x.wd (.slice a' l[j + 1].vals.length c') l[j + 1].vals fi := fun x => hv.below' (bt (ba (Below.refl _ _)) x.ok)
          have hv2L : ∀ x : Lat (wr.alloc (.cells #[.int .i64 l[j + 1].rel, .slice a' l[j + 1].vals.length c'] 79)), ints x.wd (.slice a2 l[j].vals.length c2') l[j].vals fi2 := fun x => hv2.below' (bt (ba (Below.refl _ _)) x.ok)
          cases hq : decide (0 ≤ cmpFact l[j] l[j + 1]) with
          | true =>
            have Hf := Lib.hid (factsB_bad hlt ((factsBad_succ hlt hp).trans hq))
            go_wp2_with fail
            refine wp_region_lat (wr.alloc (.cells #[.int .i64 l[j + 1].rel, .slice a' l[j + 1].vals.length c'] 79)) (by kernel_rfl) (by kernel_rfl) ?_
            repeat (go_big_quiet_step ((first | (go_at_call 74; exact Lat.of (retBB (implIsFact_any _ s fs l[j + 1] _ fi _ (hsL _) (hvL _)) hp)) | (go_at_call 70; exact Lat.of (implCompareFacts_any l[j] l[j + 1] _ _ _ _ _ (hv2L _) (hvL _))))))
            refine wpQuiet_nil ?_
            intro _ hw'
            obtain ⟨x1, hw''⟩ := hw'
            subst hw''
            have hbx := bt (ba hbel) x1.ok
            go_wp2
            go_ret
            exact ⟨ret_bool (by rw [Hf.out]), hbx⟩
          | false =>
            have HN2 := Lib.hid (anyN_step HN.out ((factsBad_succ hlt hp).trans hq))
            go_wp2_with fail
            refine wp_region_lat (wr.alloc (.cells #[.int .i64 l[j + 1].rel, .slice a' l[j + 1].vals.length c'] 79)) (by kernel_rfl) (by kernel_rfl) ?_
            repeat (go_big_quiet_step ((first | (go_at_call 74; exact Lat.of (retBB (implIsFact_any _ s fs l[j + 1] _ fi _ (hsL _) (hvL _)) hp)) | (go_at_call 70; exact Lat.of (implCompareFacts_any l[j] l[j + 1] _ _ _ _ _ (hv2L _) (hvL _))))))
            refine wpQuiet_nil ?_
            intro _ hw'
            obtain ⟨x1, hw''⟩ := hw'
            subst hw''
            have hbx := bt (ba hbel) x1.ok
            go_wp2
            go_roundw
            case rel => exact ⟨j + 1 + 1, by go_num, by omega, HN2, hbx⟩
            case measure => simp [intOf]; omega
    · have hkl : k = l.length := by omega
      have Hn := Lib.hid (factsB_end (s := s) hkl HN.out)
      cases hsc : schemaB s with
      | false =>
        have Hf := Lib.hid (show factsB s l = false by rw [Hn.out, hsc]; rfl)
        go_wp2_with (go_at_call 77; refine (implIsSchema_any _ s fs _ (hs.below' hbel)).mono ?_; rintro e w' ⟨rfl, rfl⟩)
        go_ret
        exact ⟨ret_bool (by rw [Hf.out]), hbel⟩
      | true =>
        have Hf := Lib.hid (show factsB s l = decide ((l.length : Int) ≤ 24) by rw [Hn.out, hsc]; rfl)
        go_wp2_with (go_at_call 77; refine (implIsSchema_any _ s fs _ (hs.below' hbel)).mono ?_; rintro e w' ⟨rfl, rfl⟩)
        go_ret
        exact ⟨ret_bool (by rw [Hf.out]), hbel⟩
end Go.Proofs.YtpdmdfkcaabnaaaGreatDoor
/- IsResponse, of the reference and of the program. Condition: sizes up to 2^20. -/
namespace Go.Proofs.YtpdmdfkcaabnaaaGreatDoor
open Go.RowKit
set_option linter.unusedVariables false
set_option linter.unusedSimpArgs false
/-- How many facts are told of so many, with a limit. -/
def wantN (n L : Nat) : Nat := if L = 0 then n else min n L
def respB (s : List Int) (l : List MethD) (fa : List FactD) (a : AccD) (r : List FactD) : Bool :=
  accB s l a && factsB s fa && factsB s r && decide (r.length = wantN (matchesL s l fa a).length (methAt l a.meth).limit.toNat) && !(r.any fun y => !hasFactB (matchesL s l fa a) y)
section
variable {s : List Int} {l : List MethD} {fa r : List FactD} {a : AccD}
theorem respB_no1 (h : accB s l a = false) : respB s l fa a r = false := by unfold respB; rw [h]; rfl
theorem respB_no2 (h : factsB s fa = false) : respB s l fa a r = false := by unfold respB; rw [h]; simp
theorem respB_no3 (h : factsB s r = false) : respB s l fa a r = false := by unfold respB; rw [h]; simp
theorem respB_yes {q L : Nat} {vals : List Int} {X : List FactD} (hq : q < l.length) (h1 : accB s l ⟨q, vals⟩ = true) (h2 : factsB s fa = true) (h3 : factsB s r = true) (hX : fa.filter (fitB l[q] vals) = X) (hL : l[q].limit = (L : Int)) :
    respB s l fa ⟨q, vals⟩ r = (decide (r.length = wantN X.length L) && !(r.any fun y => !hasFactB X y)) := by
  unfold respB; rw [matchesL_yes hq h1 h2, hX, methAt_nat' hq, hL, h1, h2, h3]; simp
end
theorem want_int {r n L : Nat} (W : Nat) (h : wantN n L = W) : decide (r = wantN n L) = decide ((r : Int) = (W : Int)) := by
  rw [h, Bool.eq_iff_iff]; simp; omega

set_option maxHeartbeats 800000 in
theorem isResponse1_any (X : List FactD) (y : FactD) (vX vy : Value) (fX fy : List Nat) (g : Nat) (w : World) (hX : facts w vX X fX) (hy : ints w vy y.vals fy) (c0 : w.cell? ⟨g, 0, none⟩ = some vX) :
    Calls Tryz.prog 88 #[.agg #[.int .i64 y.rel, vy], .pointer (some ⟨g, 0, none⟩)] w fun e w' => e = .returned (.bool (!hasFactB X y)) ∧ Below w.heap.size w w' := by
  obtain ⟨a, cap, rfl⟩ := slR.form hX
  obtain ⟨b, cap', rfl⟩ := slR.form hy
  have d0 := fun o => cell_al c0 o
  have hf := lt_of_cell c0
  generalize hd : hasFactB X y = r
  have Hd := Lib.hid hd
  clear hd
  go_enter Tryz.func88, Tryz.ntmps88
  go_wp2_with fail
  refine (implHasFact_any _ X fX y _ fy _ (hX.al _) (hy.al _)).mono ?_
  rintro e w1 ⟨rfl, hb1⟩
  rw [Hd.out]
  go_wp2
  go_ret
  exact ⟨rfl, bt (ba (Below.refl _ _)) hb1⟩
set_option maxRecDepth 100000 in
set_option maxHeartbeats 6400000 in
theorem specIsResponse_any (vs : Value) (s : List Int) (fs : List Nat) (vl : Value) (l : List MethD) (fl : List Nat) (vf : Value) (fa : List FactD) (ff : List Nat) (x : AccD) (vx : Value) (fx : List Nat) (vr : Value) (r : List FactD) (fr : List Nat) (w : World) (hs : ints w vs s fs) (hl : meths w vl l fl) (hf : facts w vf fa ff) (hx : ints w vx x.vals fx) (hr : facts w vr r fr) (hn : fa.length ≤ 1048576) (hln : ∀ y ∈ fa, y.vals.length ≤ 1048576) :
    Calls Tryz.prog 27 #[vs, vl, vf, .agg #[.int .i64 x.meth, vx], vr] w fun e w' => e = .returned (.bool (respB s l fa x r)) ∧ Below w.heap.size w w' := by
  obtain ⟨m, vals⟩ := x
  obtain ⟨ps, cs, rfl⟩ := slR.form hs
  obtain ⟨pl, cl, rfl⟩ := slR.form hl
  obtain ⟨pf, cf, rfl⟩ := slR.form hf
  obtain ⟨px, cx, rfl⟩ := slR.form hx
  obtain ⟨pr, cr, rfl⟩ := slR.form hr
  have hla := slR.le_max hl
  have hlr := slR.le_max hr
  have Hln := Lib.hid hln
  have hb0 : Below w.heap.size w (w.alloc (.cells #[.int .i64 m, .slice px vals.length cx] 28)) := ba (Below.refl _ _)
  have hs0 := hs.below' hb0
  have hl0 := hl.below' hb0
  have hf0 := hf.below' hb0
  have hx0 := hx.below' hb0
  have hr0 := hr.below' hb0
  have c0 : (w.alloc (.cells #[.int .i64 m, .slice px vals.length cx] 28)).cell? ⟨w.heap.size, 0, none⟩ = some (.int .i64 m) := cell_new w _ _ 0 _ rfl
  have c1 : (w.alloc (.cells #[.int .i64 m, .slice px vals.length cx] 28)).cell? ⟨w.heap.size, 1, none⟩ = some (.slice px vals.length cx) := cell_new w _ _ 1 _ rfl
  clear hln
  cases hA : accB s l ⟨m, vals⟩ with
  | false =>
    have Hf := Lib.hid (respB_no1 (fa := fa) (r := r) hA)
    have HIA := Lib.hid (show Calls Tryz.prog 14 #[.slice ps s.length cs, .slice pl l.length cl, .agg #[.int .i64 m, .slice px vals.length cx]] (w.alloc (.cells #[.int .i64 m, .slice px vals.length cx] 28)) (fun e w' => e = .returned (.bool false) ∧ Below (w.alloc (.cells #[.int .i64 m, .slice px vals.length cx] 28)).heap.size (w.alloc (.cells #[.int .i64 m, .slice px vals.length cx] 28)) w') from retBB (specIsAccess_any _ s fs _ l fl ⟨m, vals⟩ _ fx _ hs0 hl0 hx0) hA)
    clear hA
    go_enter Tryz.func27, Tryz.ntmps27
    go_wp2_with (first
      | (go_at_call 14; refine HIA.out.mono ?_; rintro e w2 ⟨rfl, hb2⟩; have e0 := cell_below c0 hb2; have e1 := cell_below c1 hb2))
    go_ret
    exact ⟨ret_bool (by rw [Hf.out]), bt hb0 hb2⟩
  | true =>
    have HIA := Lib.hid (show Calls Tryz.prog 14 #[.slice ps s.length cs, .slice pl l.length cl, .agg #[.int .i64 m, .slice px vals.length cx]] (w.alloc (.cells #[.int .i64 m, .slice px vals.length cx] 28)) (fun e w' => e = .returned (.bool true) ∧ Below (w.alloc (.cells #[.int .i64 m, .slice px vals.length cx] 28)).heap.size (w.alloc (.cells #[.int .i64 m, .slice px vals.length cx] 28)) w') from retBB (specIsAccess_any _ s fs _ l fl ⟨m, vals⟩ _ fx _ hs0 hl0 hx0) hA)
    cases hF1 : factsB s fa with
    | false =>
      have Hf := Lib.hid (respB_no2 (l := l) (r := r) (a := ⟨m, vals⟩) hF1)
      have HF1 := Lib.hid (show ∀ W : World, Below (w.alloc (.cells #[.int .i64 m, .slice px vals.length cx] 28)).heap.size (w.alloc (.cells #[.int .i64 m, .slice px vals.length cx] 28)) W → Calls Tryz.prog 15 #[.slice ps s.length cs, .slice pf fa.length cf] W (fun e w' => e = .returned (.bool false) ∧ Below W.heap.size W w') from fun W hb => retBB (specAreFacts_any _ s fs _ fa ff W (hs0.below' hb) (hf0.below' hb)) hF1)
      clear hA hF1
      go_enter Tryz.func27, Tryz.ntmps27
      go_wp2_with (first
        | (go_at_call 14; refine HIA.out.mono ?_; rintro e w2 ⟨rfl, hb2⟩; have e0 := cell_below c0 hb2; have e1 := cell_below c1 hb2)
        | ((go_at_call 15); ((with_reducible refine (HF1.out _ hb2).mono ?_); rintro e w3 ⟨rfl, hb3⟩; have hb23 := bt hb2 hb3; have e2 := cell_below c0 hb23; have e3 := cell_below c1 hb23)))
      go_ret
      exact ⟨ret_bool (by rw [Hf.out]), bt hb0 hb23⟩
    | true =>
      have HF1 := Lib.hid (show ∀ W : World, Below (w.alloc (.cells #[.int .i64 m, .slice px vals.length cx] 28)).heap.size (w.alloc (.cells #[.int .i64 m, .slice px vals.length cx] 28)) W → Calls Tryz.prog 15 #[.slice ps s.length cs, .slice pf fa.length cf] W (fun e w' => e = .returned (.bool true) ∧ Below W.heap.size W w') from fun W hb => retBB (specAreFacts_any _ s fs _ fa ff W (hs0.below' hb) (hf0.below' hb)) hF1)
      cases hF2 : factsB s r with
      | false =>
        have Hf := Lib.hid (respB_no3 (l := l) (fa := fa) (a := ⟨m, vals⟩) hF2)
        have HF2 := Lib.hid (show ∀ W : World, Below (w.alloc (.cells #[.int .i64 m, .slice px vals.length cx] 28)).heap.size (w.alloc (.cells #[.int .i64 m, .slice px vals.length cx] 28)) W → Calls Tryz.prog 15 #[.slice ps s.length cs, .slice pr r.length cr] W (fun e w' => e = .returned (.bool false) ∧ Below W.heap.size W w') from fun W hb => retBB (specAreFacts_any _ s fs _ r fr W (hs0.below' hb) (hr0.below' hb)) hF2)
        clear hA hF1 hF2
        go_enter Tryz.func27, Tryz.ntmps27
        go_wp2_with (first
          | (go_at_call 14; refine HIA.out.mono ?_; rintro e w2 ⟨rfl, hb2⟩; have e0 := cell_below c0 hb2; have e1 := cell_below c1 hb2)
          | ((go_at_call 15); ((with_reducible refine (HF1.out _ hb2).mono ?_); rintro e w3 ⟨rfl, hb3⟩; have hb23 := bt hb2 hb3; have e2 := cell_below c0 hb23; have e3 := cell_below c1 hb23))
          | ((go_at_call 15); ((with_reducible refine (HF2.out _ hb23).mono ?_); rintro e w4 ⟨rfl, hb4⟩; have hb24 := bt hb23 hb4; have e4 := cell_below c0 hb24; have e5 := cell_below c1 hb24)))
        go_ret
        exact ⟨ret_bool (by rw [Hf.out]), bt hb0 hb24⟩
      | true =>
        have HF2 := Lib.hid (show ∀ W : World, Below (w.alloc (.cells #[.int .i64 m, .slice px vals.length cx] 28)).heap.size (w.alloc (.cells #[.int .i64 m, .slice px vals.length cx] 28)) W → Calls Tryz.prog 15 #[.slice ps s.length cs, .slice pr r.length cr] W (fun e w' => e = .returned (.bool true) ∧ Below W.heap.size W w') from fun W hb => retBB (specAreFacts_any _ s fs _ r fr W (hs0.below' hb) (hr0.below' hb)) hF2)
        obtain ⟨q, hm, hq, hmb, hzz2, hfit⟩ := fit_of hA
        clear hzz2
        have hm' : m = (q : Int) := hm
        subst hm'
        obtain ⟨L, hL, hL9⟩ := limit_of hmb
        obtain ⟨X, hX⟩ : ∃ X, X = fa.filter (fitB l[q] vals) := ⟨_, rfl⟩
        have hXn : X.length ≤ 1048576 := by rw [hX]; exact Nat.le_trans (List.length_filter_le _ _) hn
        have H0 := Lib.hid (respB_yes hq hA hF1 hF2 hX.symm hL)
        have hH : ∀ y ∈ fa, Fit l[q] vals y := fun y hy => hfit y (factB_of_facts hF1 y hy)
        have HH := Lib.hid hH
        have hk0 : (0 : Int) ≤ (q : Int) := Int.natCast_nonneg _
        have hk1 : (q : Int) < (l.length : Int) := by omega
        obtain ⟨g, vi, fi, rfl, m0, m1, m2, m3, m4, hvi⟩ := hl0.get q hq
        obtain ⟨pi, ci, rfl⟩ := slR.form hvi
        rw [hL] at m2
        obtain ⟨WN, hWN⟩ : ∃ WN, wantN X.length L = WN := ⟨_, rfl⟩
        have HWNe := Lib.hid hWN
        have HWN := Lib.hid (want_int (r := r.length) (n := X.length) (L := L) WN hWN)
        generalize hR : respB s l fa ⟨(q : Int), vals⟩ r = R at H0 ⊢
        have HXe := Lib.hid hX
        have HLe := Lib.hid hL
        have hcall := fun (W : World) (hb : Below (w.alloc (.cells #[.int .i64 (q : Int), .slice px vals.length cx] 28)).heap.size (w.alloc (.cells #[.int .i64 (q : Int), .slice px vals.length cx] 28)) W) => l5Matches_any l[q] vals (.slice pi l[q].inputs.length ci) (.slice px vals.length cx) fi fx (.slice pf fa.length cf) fa ff W (hvi.below' hb) (hx0.below' hb) (hf0.below' hb) HH.out hn Hln.out
        rw [← hX, hL] at hcall
        have HC := Lib.hid hcall
        clear hfit hH hm hA hF1 hF2 hmb hL9 hX hR hL hWN hcall
        go_enter Tryz.func27, Tryz.ntmps27
        go_wp2_with (first
          | (go_at_call 14; refine HIA.out.mono ?_; rintro e w2 ⟨rfl, hb2⟩; have e0 := cell_below c0 hb2; have e1 := cell_below c1 hb2)
          | ((go_at_call 15); ((with_reducible refine (HF1.out _ hb2).mono ?_); rintro e w3 ⟨rfl, hb3⟩; have hb23 := bt hb2 hb3; have e2 := cell_below c0 hb23; have e3 := cell_below c1 hb23))
          | ((go_at_call 15); ((with_reducible refine (HF2.out _ hb23).mono ?_); rintro e w4 ⟨rfl, hb4⟩; have hb24 := bt hb23 hb4; have e4 := cell_below c0 hb24; have e5 := cell_below c1 hb24)))
        have hb04 := bt hb0 hb24
        have uc0 : w4.cell? ⟨w.heap.size, 0, none⟩ = some (.int .i64 (q : Int)) := cell_below c0 hb24
        have uc1 : w4.cell? ⟨w.heap.size, 1, none⟩ = some (.slice px vals.length cx) := cell_below c1 hb24
        have um0 : w4.cell? ⟨g, q * 5, none⟩ = some (.int .i64 l[q].rel) := cell_below m0 hb24
        have um1 : w4.cell? ⟨g, q * 5 + 1, none⟩ = some (.slice pi l[q].inputs.length ci) := cell_below m1 hb24
        have um2 : w4.cell? ⟨g, q * 5 + 2, none⟩ = some (.int .i64 (L : Int)) := cell_below m2 hb24
        have um3 : w4.cell? ⟨g, q * 5 + 3, none⟩ = some (.int .i64 l[q].cost) := cell_below m3 hb24
        have um4 : w4.cell? ⟨g, q * 5 + 4, none⟩ = some (.int .i64 l[q].quota) := cell_below m4 hb24
        go_region_held3 (fun w' => w'.cell? ⟨w.heap.size, 0, none⟩ = some (.int .i64 (q : Int)) ∧ w'.cell? ⟨w.heap.size, 1, none⟩ = some (.slice px vals.length cx) ∧ w'.cell? ⟨g, q * 5, none⟩ = some (.int .i64 l[q].rel) ∧ w'.cell? ⟨g, q * 5 + 1, none⟩ = some (.slice pi l[q].inputs.length ci) ∧ w'.cell? ⟨g, q * 5 + 2, none⟩ = some (.int .i64 (L : Int)) ∧ w'.cell? ⟨g, q * 5 + 3, none⟩ = some (.int .i64 l[q].cost) ∧ w'.cell? ⟨g, q * 5 + 4, none⟩ = some (.int .i64 l[q].quota)) (first | exact ⟨uc0, uc1, um0, um1, um2, um3, um4⟩ | exact ⟨zc0, zc1, zm0, zm1, zm2, zm3, zm4⟩)
          (first
            | (go_at_call 85
               refine (HC.out _ ?_).mono ?_
               · (repeat (first | exact hb24 | refine bdr ?_))
               rintro e w5 ⟨v5, f5, rfl, hu5, hfr5, hb5⟩
               have D45 : Below w4.heap.size w4 w5 := bt (by (repeat (first | exact Below.refl _ _ | refine bdr ?_))) hb5
               have D5 := bt hb24 D45
               have zc0 : w5.cell? ⟨w.heap.size, 0, none⟩ = some (.int .i64 (q : Int)) := cell_below c0 D5
               have zc1 : w5.cell? ⟨w.heap.size, 1, none⟩ = some (.slice px vals.length cx) := cell_below c1 D5
               have zm0 : w5.cell? ⟨g, q * 5, none⟩ = some (.int .i64 l[q].rel) := cell_below m0 D5
               have zm1 : w5.cell? ⟨g, q * 5 + 1, none⟩ = some (.slice pi l[q].inputs.length ci) := cell_below m1 D5
               have zm2 : w5.cell? ⟨g, q * 5 + 2, none⟩ = some (.int .i64 (L : Int)) := cell_below m2 D5
               have zm3 : w5.cell? ⟨g, q * 5 + 3, none⟩ = some (.int .i64 l[q].cost) := cell_below m3 D5
               have zm4 : w5.cell? ⟨g, q * 5 + 4, none⟩ = some (.int .i64 l[q].quota) := cell_below m4 D5
               clear hfr5))
        clear uc0 uc1 um0 um1 um2 um3 um4 zm0 zm1 zm3 zm4
        obtain ⟨a5, c5, rfl⟩ := slR.form hu5
        have hb05 := bt hb04 D45
        have hr5 := hr0.below' D5
        go_wp2
        go_loopw [12] (fun i wr => ∃ k : Nat, i = .int .i64 k ∧ k ≤ r.length ∧ Hid (∀ j (hj : j < r.length), j < k → (!hasFactB X r[j]) = false) ∧ Below w5.heap.size w5 wr) (fun i _ => r.length - (intOf i).toNat)
        case atStart => exact ⟨0, rfl, Nat.zero_le _, Lib.hid (fun j hj h0 => by omega), Below.refl _ _⟩
        case round =>
          obtain ⟨k, rfl, hk, HN, hbel⟩ := hrel
          have hbr := bt hb05 hbel
          have d0 := cell_below zc0 hbel
          have d2 := cell_below zm2 hbel
          by_cases hlt : k < r.length
          · obtain ⟨gr, cc, fk, hgr, ⟨vy, rfl, iy, hy⟩, _, hc, _, _, _⟩ := slR.at (hr5.below' hbel) k hlt
            subst hgr
            obtain ⟨a', c', rfl⟩ := slR.form hy
            have y0 : wr.cell? ⟨gr, k * 2, none⟩ = some (.int .i64 r[k].rel) := hc 0 _ rfl
            have y1 : wr.cell? ⟨gr, k * 2 + 1, none⟩ = some (.slice a' r[k].vals.length c') := hc 1 _ rfl
            have hkl : (k : Int) < (r.length : Int) := by omega
            have hk00 : (0 : Int) ≤ (k : Int) := Int.natCast_nonneg _
            clear hc
            cases hp : hasFactB X r[k] with
            | false =>
              have Hg := Lib.hid (show R = false by rw [H0.out, any_true_of (p := fun y => !hasFactB X y) hlt (by simp [hp])]; simp)
              go_wp2_with (go_at_call 61; refine (retBB (specHasFact_any _ X f5 r[k] _ fk _ (hu5.below' hbel) hy) hp).mono ?_; rintro e w6 ⟨rfl, hb6⟩)
              have hbf := bt hbr hb6
              go_ret
              exact ⟨ret_bool (by rw [Hg.out]), hbf⟩
            | true =>
              have HN2 := Lib.hid (none_step (p := fun y => !hasFactB X y) HN.out hlt (by simp [hp]))
              go_wp2_with (go_at_call 61; refine (retBB (specHasFact_any _ X f5 r[k] _ fk _ (hu5.below' hbel) hy) hp).mono ?_; rintro e w6 ⟨rfl, hb6⟩)
              have hbf := bt hbel hb6
              go_roundw
              case rel => exact ⟨k + 1, by go_num, by omega, HN2, hbf⟩
              case measure => simp [intOf]; omega
          · have hkl : k = r.length := by omega
            have HA0 : (r.any fun y => !hasFactB X y) = false := any_false_of (p := fun y => !hasFactB X y) (fun i hi => HN.out i hi (by omega))
            have Hg := Lib.hid (show R = decide ((r.length : Int) = (WN : Int)) by rw [H0.out, HA0, HWN.out]; simp)
            clear HA0 hkl
            by_cases hL0 : L = 0
            · have hw : WN = X.length := by have := HWNe.out; rw [← this]; unfold wantN; rw [if_pos hL0]
              subst hw
              subst hL0
              go_wp2
              go_ret
              exact ⟨ret_bool (by rw [Hg.out] <;> rfl), hbr⟩
            · have hgt : (0 : Int) < (L : Int) := by omega
              by_cases hmn : L < X.length
              · have hw : WN = L := by have := HWNe.out; rw [← this]; unfold wantN; rw [if_neg hL0]; omega
                subst hw
                have hmn2 : (WN : Int) < (X.length : Int) := by omega
                have hmn3 : min (X.length : Int) (WN : Int) = (WN : Int) := by omega
                go_wp2
                go_ret
                exact ⟨ret_bool (by rw [Hg.out] <;> rfl), hbr⟩
              · have hw : WN = X.length := by have := HWNe.out; rw [← this]; unfold wantN; rw [if_neg hL0]; omega
                subst hw
                have hmn2 : ¬ ((L : Int) < (X.length : Int)) := by omega
                have hmn3 : min (X.length : Int) (L : Int) = (X.length : Int) := by omega
                go_wp2
                go_ret
                exact ⟨ret_bool (by rw [Hg.out] <;> rfl), hbr⟩
set_option maxRecDepth 100000 in
set_option maxHeartbeats 6400000 in
theorem implIsResponse_any (vs : Value) (s : List Int) (fs : List Nat) (vl : Value) (l : List MethD) (fl : List Nat) (vf : Value) (fa : List FactD) (ff : List Nat) (x : AccD) (vx : Value) (fx : List Nat) (vr : Value) (r : List FactD) (fr : List Nat) (w : World) (hs : ints w vs s fs) (hl : meths w vl l fl) (hf : facts w vf fa ff) (hx : ints w vx x.vals fx) (hr : facts w vr r fr) (hn : fa.length ≤ 1048576) (hln : ∀ y ∈ fa, y.vals.length ≤ 1048576) :
    Calls Tryz.prog 16 #[vs, vl, vf, .agg #[.int .i64 x.meth, vx], vr] w fun e w' => e = .returned (.bool (respB s l fa x r)) ∧ Below w.heap.size w w' := by
  obtain ⟨m, vals⟩ := x
  obtain ⟨ps, cs, rfl⟩ := slR.form hs
  obtain ⟨pl, cl, rfl⟩ := slR.form hl
  obtain ⟨pf, cf, rfl⟩ := slR.form hf
  obtain ⟨px, cx, rfl⟩ := slR.form hx
  obtain ⟨pr, cr, rfl⟩ := slR.form hr
  have hla := slR.le_max hl
  have hlr := slR.le_max hr
  have Hln := Lib.hid hln
  have hb0 : Below w.heap.size w (w.alloc (.cells #[.int .i64 m, .slice px vals.length cx] 28)) := ba (Below.refl _ _)
  have hs0 := hs.below' hb0
  have hl0 := hl.below' hb0
  have hf0 := hf.below' hb0
  have hx0 := hx.below' hb0
  have hr0 := hr.below' hb0
  have c0 : (w.alloc (.cells #[.int .i64 m, .slice px vals.length cx] 28)).cell? ⟨w.heap.size, 0, none⟩ = some (.int .i64 m) := cell_new w _ _ 0 _ rfl
  have c1 : (w.alloc (.cells #[.int .i64 m, .slice px vals.length cx] 28)).cell? ⟨w.heap.size, 1, none⟩ = some (.slice px vals.length cx) := cell_new w _ _ 1 _ rfl
  clear hln
  cases hA : accB s l ⟨m, vals⟩ with
  | false =>
    have Hf := Lib.hid (respB_no1 (fa := fa) (r := r) hA)
    have HIA := Lib.hid (show Calls Tryz.prog 34 #[.slice ps s.length cs, .slice pl l.length cl, .agg #[.int .i64 m, .slice px vals.length cx]] (w.alloc (.cells #[.int .i64 m, .slice px vals.length cx] 28)) (fun e w' => e = .returned (.bool false) ∧ Below (w.alloc (.cells #[.int .i64 m, .slice px vals.length cx] 28)).heap.size (w.alloc (.cells #[.int .i64 m, .slice px vals.length cx] 28)) w') from retBB (implIsAccess_any _ s fs _ l fl ⟨m, vals⟩ _ fx _ hs0 hl0 hx0) hA)
    clear hA
    go_enter Tryz.func16, Tryz.ntmps16
    go_wp2_with (first
      | (go_at_call 34; refine HIA.out.mono ?_; rintro e w2 ⟨rfl, hb2⟩; have e0 := cell_below c0 hb2; have e1 := cell_below c1 hb2))
    go_ret
    exact ⟨ret_bool (by rw [Hf.out]), bt hb0 hb2⟩
  | true =>
    have HIA := Lib.hid (show Calls Tryz.prog 34 #[.slice ps s.length cs, .slice pl l.length cl, .agg #[.int .i64 m, .slice px vals.length cx]] (w.alloc (.cells #[.int .i64 m, .slice px vals.length cx] 28)) (fun e w' => e = .returned (.bool true) ∧ Below (w.alloc (.cells #[.int .i64 m, .slice px vals.length cx] 28)).heap.size (w.alloc (.cells #[.int .i64 m, .slice px vals.length cx] 28)) w') from retBB (implIsAccess_any _ s fs _ l fl ⟨m, vals⟩ _ fx _ hs0 hl0 hx0) hA)
    cases hF1 : factsB s fa with
    | false =>
      have Hf := Lib.hid (respB_no2 (l := l) (r := r) (a := ⟨m, vals⟩) hF1)
      have HF1 := Lib.hid (show ∀ W : World, Below (w.alloc (.cells #[.int .i64 m, .slice px vals.length cx] 28)).heap.size (w.alloc (.cells #[.int .i64 m, .slice px vals.length cx] 28)) W → Calls Tryz.prog 75 #[.slice ps s.length cs, .slice pf fa.length cf] W (fun e w' => e = .returned (.bool false) ∧ Below W.heap.size W w') from fun W hb => retBB (implAreFacts_any _ s fs _ fa ff W (hs0.below' hb) (hf0.below' hb)) hF1)
      clear hA hF1
      go_enter Tryz.func16, Tryz.ntmps16
      go_wp2_with (first
        | (go_at_call 34; refine HIA.out.mono ?_; rintro e w2 ⟨rfl, hb2⟩; have e0 := cell_below c0 hb2; have e1 := cell_below c1 hb2)
        | ((go_at_call 75); ((with_reducible refine (HF1.out _ hb2).mono ?_); rintro e w3 ⟨rfl, hb3⟩; have hb23 := bt hb2 hb3; have e2 := cell_below c0 hb23; have e3 := cell_below c1 hb23)))
      go_ret
      exact ⟨ret_bool (by rw [Hf.out]), bt hb0 hb23⟩
    | true =>
      have HF1 := Lib.hid (show ∀ W : World, Below (w.alloc (.cells #[.int .i64 m, .slice px vals.length cx] 28)).heap.size (w.alloc (.cells #[.int .i64 m, .slice px vals.length cx] 28)) W → Calls Tryz.prog 75 #[.slice ps s.length cs, .slice pf fa.length cf] W (fun e w' => e = .returned (.bool true) ∧ Below W.heap.size W w') from fun W hb => retBB (implAreFacts_any _ s fs _ fa ff W (hs0.below' hb) (hf0.below' hb)) hF1)
      cases hF2 : factsB s r with
      | false =>
        have Hf := Lib.hid (respB_no3 (l := l) (fa := fa) (a := ⟨m, vals⟩) hF2)
        have HF2 := Lib.hid (show ∀ W : World, Below (w.alloc (.cells #[.int .i64 m, .slice px vals.length cx] 28)).heap.size (w.alloc (.cells #[.int .i64 m, .slice px vals.length cx] 28)) W → Calls Tryz.prog 75 #[.slice ps s.length cs, .slice pr r.length cr] W (fun e w' => e = .returned (.bool false) ∧ Below W.heap.size W w') from fun W hb => retBB (implAreFacts_any _ s fs _ r fr W (hs0.below' hb) (hr0.below' hb)) hF2)
        clear hA hF1 hF2
        go_enter Tryz.func16, Tryz.ntmps16
        go_wp2_with (first
          | (go_at_call 34; refine HIA.out.mono ?_; rintro e w2 ⟨rfl, hb2⟩; have e0 := cell_below c0 hb2; have e1 := cell_below c1 hb2)
          | ((go_at_call 75); ((with_reducible refine (HF1.out _ hb2).mono ?_); rintro e w3 ⟨rfl, hb3⟩; have hb23 := bt hb2 hb3; have e2 := cell_below c0 hb23; have e3 := cell_below c1 hb23))
          | ((go_at_call 75); ((with_reducible refine (HF2.out _ hb23).mono ?_); rintro e w4 ⟨rfl, hb4⟩; have hb24 := bt hb23 hb4; have e4 := cell_below c0 hb24; have e5 := cell_below c1 hb24)))
        go_ret
        exact ⟨ret_bool (by rw [Hf.out]), bt hb0 hb24⟩
      | true =>
        have HF2 := Lib.hid (show ∀ W : World, Below (w.alloc (.cells #[.int .i64 m, .slice px vals.length cx] 28)).heap.size (w.alloc (.cells #[.int .i64 m, .slice px vals.length cx] 28)) W → Calls Tryz.prog 75 #[.slice ps s.length cs, .slice pr r.length cr] W (fun e w' => e = .returned (.bool true) ∧ Below W.heap.size W w') from fun W hb => retBB (implAreFacts_any _ s fs _ r fr W (hs0.below' hb) (hr0.below' hb)) hF2)
        obtain ⟨q, hm, hq, hmb, hzz2, hfit⟩ := fit_of hA
        clear hzz2
        have hm' : m = (q : Int) := hm
        subst hm'
        obtain ⟨L, hL, hL9⟩ := limit_of hmb
        obtain ⟨X, hX⟩ : ∃ X, X = fa.filter (fitB l[q] vals) := ⟨_, rfl⟩
        have hXn : X.length ≤ 1048576 := by rw [hX]; exact Nat.le_trans (List.length_filter_le _ _) hn
        have H0 := Lib.hid (respB_yes hq hA hF1 hF2 hX.symm hL)
        have hH : ∀ y ∈ fa, Fit l[q] vals y := fun y hy => hfit y (factB_of_facts hF1 y hy)
        have HH := Lib.hid hH
        have hk0 : (0 : Int) ≤ (q : Int) := Int.natCast_nonneg _
        have hk1 : (q : Int) < (l.length : Int) := by omega
        obtain ⟨g, vi, fi, rfl, m0, m1, m2, m3, m4, hvi⟩ := hl0.get q hq
        obtain ⟨pi, ci, rfl⟩ := slR.form hvi
        rw [hL] at m2
        obtain ⟨WN, hWN⟩ : ∃ WN, wantN X.length L = WN := ⟨_, rfl⟩
        have HWNe := Lib.hid hWN
        have HWN := Lib.hid (want_int (r := r.length) (n := X.length) (L := L) WN hWN)
        generalize hR : respB s l fa ⟨(q : Int), vals⟩ r = R at H0 ⊢
        have HXe := Lib.hid hX
        have HLe := Lib.hid hL
        have hcall := fun (W : World) (hb : Below (w.alloc (.cells #[.int .i64 (q : Int), .slice px vals.length cx] 28)).heap.size (w.alloc (.cells #[.int .i64 (q : Int), .slice px vals.length cx] 28)) W) => matches_any l fa q vals _ _ _ fl ff fx W (hl0.below' hb) (hf0.below' hb) (hx0.below' hb) hq HH.out hn Hln.out
        rw [← hX] at hcall
        have HC := Lib.hid hcall
        have hP := plain_of Tryz.func88 (by kernel_rfl) (by kernel_rfl)
        clear hfit hH hm hA hF1 hF2 hmb hL9 hX hR hL hWN hcall
        by_cases hL0 : L = 0
        · have hw : WN = X.length := by have := HWNe.out; rw [← this]; unfold wantN; rw [if_pos hL0]
          subst hw
          subst hL0
          cases hd : decide ((r.length : Int) = (X.length : Int)) with
          | false =>
            have Hg := Lib.hid (show R = false by rw [H0.out, HWN.out, hd]; rfl)
            have hne : ((r.length : Int) == (X.length : Int)) = false := hd
            go_enter Tryz.func16, Tryz.ntmps16
            go_wp2_with (first
              | (go_at_call 34; refine HIA.out.mono ?_; rintro e w2 ⟨rfl, hb2⟩; have e0 := cell_below c0 hb2; have e1 := cell_below c1 hb2)
              | ((go_at_call 75); ((with_reducible refine (HF1.out _ hb2).mono ?_); rintro e w3 ⟨rfl, hb3⟩; have hb23 := bt hb2 hb3; have e2 := cell_below c0 hb23; have e3 := cell_below c1 hb23))
              | ((go_at_call 75); ((with_reducible refine (HF2.out _ hb23).mono ?_); rintro e w4 ⟨rfl, hb4⟩; have hb24 := bt hb23 hb4; have e4 := cell_below c0 hb24; have e5 := cell_below c1 hb24))
              | (go_at_call 84; refine (HC.out _ hb24).mono ?_; rintro e w5 ⟨v5, f5, rfl, hg5, hb5⟩; obtain ⟨a5, c5, rfl⟩ := slR.form hg5.sl; have D5 := bt hb24 hb5; have z0 := cell_below c0 D5; have z2 := cell_below m2 D5; have z0a := fun o => cell_al z0 o; have z2a := fun o => cell_al z2 o; have zn := cell_new w5 26 #[.slice a5 X.length c5] 0 _ rfl))
            have hbf := ba (o := .cells #[.slice a5 X.length c5] 26) (bt hb0 D5)
            go_ret
            exact ⟨ret_bool (by rw [Hg.out]), hbf⟩
          | true =>
            have Hg := Lib.hid (show R = !(r.any fun y => !hasFactB X y) by rw [H0.out, HWN.out, hd]; simp)
            have hne : ((r.length : Int) == (X.length : Int)) = true := hd
            go_enter Tryz.func16, Tryz.ntmps16
            go_wp2_with (first
              | (go_at_call 34; refine HIA.out.mono ?_; rintro e w2 ⟨rfl, hb2⟩; have e0 := cell_below c0 hb2; have e1 := cell_below c1 hb2)
              | ((go_at_call 75); ((with_reducible refine (HF1.out _ hb2).mono ?_); rintro e w3 ⟨rfl, hb3⟩; have hb23 := bt hb2 hb3; have e2 := cell_below c0 hb23; have e3 := cell_below c1 hb23))
              | ((go_at_call 75); ((with_reducible refine (HF2.out _ hb23).mono ?_); rintro e w4 ⟨rfl, hb4⟩; have hb24 := bt hb23 hb4; have e4 := cell_below c0 hb24; have e5 := cell_below c1 hb24))
              | (go_at_call 84; refine (HC.out _ hb24).mono ?_; rintro e w5 ⟨v5, f5, rfl, hg5, hb5⟩; obtain ⟨a5, c5, rfl⟩ := slR.form hg5.sl; have D5 := bt hb24 hb5; have z0 := cell_below c0 D5; have z2 := cell_below m2 D5; have z0a := fun o => cell_al z0 o; have z2a := fun o => cell_al z2 o; have zn := cell_new w5 26 #[.slice a5 X.length c5] 0 _ rfl)
              | (go_at_call 87; refine (containsFuncFact_any _ hP #[.pointer (some ⟨w5.heap.size, 0, none⟩)] (fun y vy => #[.agg #[.int .i64 y.rel, vy], .pointer (some ⟨w5.heap.size, 0, none⟩)]) (fun _ _ => rfl) (fun y => !hasFactB X y) _ r fr _ ((hr0.below' D5).al _) (fun i hi w' vy fy hb hy => isResponse1_any X r[i] _ _ f5 fy _ w' ((facts.al (hg5.sl : facts _ _ X f5) _).below' hb) hy (cell_below zn hb))).mono ?_; rintro e w6 ⟨rfl, hb6⟩))
            have hbf := bt (ba (o := .cells #[.slice a5 X.length c5] 26) (bt hb0 D5)) hb6
            go_ret
            exact ⟨ret_bool (by rw [Hg.out] <;> rfl), hbf⟩
        · have hgt : (0 : Int) < (L : Int) := by omega
          by_cases hmn : L < X.length
          · have hw : WN = L := by have := HWNe.out; rw [← this]; unfold wantN; rw [if_neg hL0]; omega
            subst hw
            have hmn2 : (WN : Int) < (X.length : Int) := by omega
            have hmn3 : min (X.length : Int) (WN : Int) = (WN : Int) := by omega
            cases hd : decide ((r.length : Int) = (WN : Int)) with
            | false =>
              have Hg := Lib.hid (show R = false by rw [H0.out, HWN.out, hd]; rfl)
              have hne : ((r.length : Int) == (WN : Int)) = false := hd
              go_enter Tryz.func16, Tryz.ntmps16
              go_wp2_with (first
                | (go_at_call 34; refine HIA.out.mono ?_; rintro e w2 ⟨rfl, hb2⟩; have e0 := cell_below c0 hb2; have e1 := cell_below c1 hb2)
                | ((go_at_call 75); ((with_reducible refine (HF1.out _ hb2).mono ?_); rintro e w3 ⟨rfl, hb3⟩; have hb23 := bt hb2 hb3; have e2 := cell_below c0 hb23; have e3 := cell_below c1 hb23))
                | ((go_at_call 75); ((with_reducible refine (HF2.out _ hb23).mono ?_); rintro e w4 ⟨rfl, hb4⟩; have hb24 := bt hb23 hb4; have e4 := cell_below c0 hb24; have e5 := cell_below c1 hb24))
                | (go_at_call 84; refine (HC.out _ hb24).mono ?_; rintro e w5 ⟨v5, f5, rfl, hg5, hb5⟩; obtain ⟨a5, c5, rfl⟩ := slR.form hg5.sl; have D5 := bt hb24 hb5; have z0 := cell_below c0 D5; have z2 := cell_below m2 D5; have z0a := fun o => cell_al z0 o; have z2a := fun o => cell_al z2 o; have zn := cell_new w5 26 #[.slice a5 X.length c5] 0 _ rfl))
              have hbf := ba (o := .cells #[.slice a5 X.length c5] 26) (bt hb0 D5)
              go_ret
              exact ⟨ret_bool (by rw [Hg.out]), hbf⟩
            | true =>
              have Hg := Lib.hid (show R = !(r.any fun y => !hasFactB X y) by rw [H0.out, HWN.out, hd]; simp)
              have hne : ((r.length : Int) == (WN : Int)) = true := hd
              go_enter Tryz.func16, Tryz.ntmps16
              go_wp2_with (first
                | (go_at_call 34; refine HIA.out.mono ?_; rintro e w2 ⟨rfl, hb2⟩; have e0 := cell_below c0 hb2; have e1 := cell_below c1 hb2)
                | ((go_at_call 75); ((with_reducible refine (HF1.out _ hb2).mono ?_); rintro e w3 ⟨rfl, hb3⟩; have hb23 := bt hb2 hb3; have e2 := cell_below c0 hb23; have e3 := cell_below c1 hb23))
                | ((go_at_call 75); ((with_reducible refine (HF2.out _ hb23).mono ?_); rintro e w4 ⟨rfl, hb4⟩; have hb24 := bt hb23 hb4; have e4 := cell_below c0 hb24; have e5 := cell_below c1 hb24))
                | (go_at_call 84; refine (HC.out _ hb24).mono ?_; rintro e w5 ⟨v5, f5, rfl, hg5, hb5⟩; obtain ⟨a5, c5, rfl⟩ := slR.form hg5.sl; have D5 := bt hb24 hb5; have z0 := cell_below c0 D5; have z2 := cell_below m2 D5; have z0a := fun o => cell_al z0 o; have z2a := fun o => cell_al z2 o; have zn := cell_new w5 26 #[.slice a5 X.length c5] 0 _ rfl)
                | (go_at_call 87; refine (containsFuncFact_any _ hP #[.pointer (some ⟨w5.heap.size, 0, none⟩)] (fun y vy => #[.agg #[.int .i64 y.rel, vy], .pointer (some ⟨w5.heap.size, 0, none⟩)]) (fun _ _ => rfl) (fun y => !hasFactB X y) _ r fr _ ((hr0.below' D5).al _) (fun i hi w' vy fy hb hy => isResponse1_any X r[i] _ _ f5 fy _ w' ((facts.al (hg5.sl : facts _ _ X f5) _).below' hb) hy (cell_below zn hb))).mono ?_; rintro e w6 ⟨rfl, hb6⟩))
              have hbf := bt (ba (o := .cells #[.slice a5 X.length c5] 26) (bt hb0 D5)) hb6
              go_ret
              exact ⟨ret_bool (by rw [Hg.out] <;> rfl), hbf⟩
          · have hw : WN = X.length := by have := HWNe.out; rw [← this]; unfold wantN; rw [if_neg hL0]; omega
            subst hw
            have hmn2 : ¬ ((L : Int) < (X.length : Int)) := by omega
            have hmn3 : min (X.length : Int) (L : Int) = (X.length : Int) := by omega
            cases hd : decide ((r.length : Int) = (X.length : Int)) with
            | false =>
              have Hg := Lib.hid (show R = false by rw [H0.out, HWN.out, hd]; rfl)
              have hne : ((r.length : Int) == (X.length : Int)) = false := hd
              go_enter Tryz.func16, Tryz.ntmps16
              go_wp2_with (first
                | (go_at_call 34; refine HIA.out.mono ?_; rintro e w2 ⟨rfl, hb2⟩; have e0 := cell_below c0 hb2; have e1 := cell_below c1 hb2)
                | ((go_at_call 75); ((with_reducible refine (HF1.out _ hb2).mono ?_); rintro e w3 ⟨rfl, hb3⟩; have hb23 := bt hb2 hb3; have e2 := cell_below c0 hb23; have e3 := cell_below c1 hb23))
                | ((go_at_call 75); ((with_reducible refine (HF2.out _ hb23).mono ?_); rintro e w4 ⟨rfl, hb4⟩; have hb24 := bt hb23 hb4; have e4 := cell_below c0 hb24; have e5 := cell_below c1 hb24))
                | (go_at_call 84; refine (HC.out _ hb24).mono ?_; rintro e w5 ⟨v5, f5, rfl, hg5, hb5⟩; obtain ⟨a5, c5, rfl⟩ := slR.form hg5.sl; have D5 := bt hb24 hb5; have z0 := cell_below c0 D5; have z2 := cell_below m2 D5; have z0a := fun o => cell_al z0 o; have z2a := fun o => cell_al z2 o; have zn := cell_new w5 26 #[.slice a5 X.length c5] 0 _ rfl))
              have hbf := ba (o := .cells #[.slice a5 X.length c5] 26) (bt hb0 D5)
              go_ret
              exact ⟨ret_bool (by rw [Hg.out]), hbf⟩
            | true =>
              have Hg := Lib.hid (show R = !(r.any fun y => !hasFactB X y) by rw [H0.out, HWN.out, hd]; simp)
              have hne : ((r.length : Int) == (X.length : Int)) = true := hd
              go_enter Tryz.func16, Tryz.ntmps16
              go_wp2_with (first
                | (go_at_call 34; refine HIA.out.mono ?_; rintro e w2 ⟨rfl, hb2⟩; have e0 := cell_below c0 hb2; have e1 := cell_below c1 hb2)
                | ((go_at_call 75); ((with_reducible refine (HF1.out _ hb2).mono ?_); rintro e w3 ⟨rfl, hb3⟩; have hb23 := bt hb2 hb3; have e2 := cell_below c0 hb23; have e3 := cell_below c1 hb23))
                | ((go_at_call 75); ((with_reducible refine (HF2.out _ hb23).mono ?_); rintro e w4 ⟨rfl, hb4⟩; have hb24 := bt hb23 hb4; have e4 := cell_below c0 hb24; have e5 := cell_below c1 hb24))
                | (go_at_call 84; refine (HC.out _ hb24).mono ?_; rintro e w5 ⟨v5, f5, rfl, hg5, hb5⟩; obtain ⟨a5, c5, rfl⟩ := slR.form hg5.sl; have D5 := bt hb24 hb5; have z0 := cell_below c0 D5; have z2 := cell_below m2 D5; have z0a := fun o => cell_al z0 o; have z2a := fun o => cell_al z2 o; have zn := cell_new w5 26 #[.slice a5 X.length c5] 0 _ rfl)
                | (go_at_call 87; refine (containsFuncFact_any _ hP #[.pointer (some ⟨w5.heap.size, 0, none⟩)] (fun y vy => #[.agg #[.int .i64 y.rel, vy], .pointer (some ⟨w5.heap.size, 0, none⟩)]) (fun _ _ => rfl) (fun y => !hasFactB X y) _ r fr _ ((hr0.below' D5).al _) (fun i hi w' vy fy hb hy => isResponse1_any X r[i] _ _ f5 fy _ w' ((facts.al (hg5.sl : facts _ _ X f5) _).below' hb) hy (cell_below zn hb))).mono ?_; rintro e w6 ⟨rfl, hb6⟩))
              have hbf := bt (ba (o := .cells #[.slice a5 X.length c5] 26) (bt hb0 D5)) hb6
              go_ret
              exact ⟨ret_bool (by rw [Hg.out] <;> rfl), hbf⟩
end Go.Proofs.YtpdmdfkcaabnaaaGreatDoor
/- IsResponse of both at a response whose first element has been cut off. Condition: not more than 2^20 facts. -/
namespace Go.Proofs.YtpdmdfkcaabnaaaGreatDoor
open Go.RowKit
set_option linter.unusedVariables false
set_option linter.unusedSimpArgs false
set_option maxRecDepth 100000 in
set_option maxHeartbeats 800000 in
theorem indexFuncFactO_any (K : Nat) (hK : Plain Tryz.prog K) (caps : Array Value) (A : FactD → Value → Array Value) (hA : ∀ (x : FactD) (vvals : Value) , #[.agg #[.int .i64 x.rel, vvals]] ++ caps = A x vvals) (p : FactD → Bool) (g0 q0 cq : Nat) (x0 : FactD) (l : List FactD) (f : List Nat) (w : World) (h : facts w (.slice (some ⟨g0, 0, none⟩) (l.length + 1) q0) (x0 :: l) f)
    (hcall : ∀ (i : Nat) (hi : i < l.length) (w' : World) (vvals : Value) (fvals : List Nat) , Below w.heap.size w w' → ints w' vvals l[i].vals fvals → Calls Tryz.prog K (A l[i] vvals) w' fun e w'' => e = .returned (.bool (p l[i])) ∧ Below w'.heap.size w' w'') :
    Calls Tryz.prog 160 #[.slice (some ⟨g0, 2, none⟩) l.length cq, .func (.func K) #[] caps] w fun e w' => e = .returned (.int .i64 (idxI p l)) ∧ Below w.heap.size w w' := by
  have hla : l.length ≤ 9223372036854775807 := by have := slR.le_max h; simp only [List.length_cons] at this; omega
  have HC := Lib.hid hcall
  have HA := Lib.hid hA
  clear hcall hA
  unfold Plain at hK
  go_enter Tryz.func160, Tryz.ntmps160
  go_wp2
  go_loopw [8] (fun i wr => ∃ k : Nat, i = .int .i64 k ∧ k ≤ l.length ∧ Hid (∀ j (hj : j < l.length), j < k → p l[j] = false) ∧ Below w.heap.size w wr) (fun i _ => l.length - (intOf i).toNat)
  case atStart => exact ⟨0, rfl, Nat.zero_le _, Lib.hid (fun j hj h0 => by omega), Below.refl _ _⟩
  case round =>
    obtain ⟨k, rfl, hk, HN, hbel⟩ := hrel
    by_cases hlt : k < l.length
    · obtain ⟨c, fi, ⟨vvals, rfl, irel, hvals⟩, _, hc, _, _, _⟩ := facts_at1 (facts.below' h hbel) k hlt
      have hc0 : wr.cell? ⟨g0, 2 + k * 2, none⟩ = _ := hc 0 _ rfl
      have hc1 : wr.cell? ⟨g0, 2 + k * 2 + 1, none⟩ = _ := hc 1 _ rfl
      clear hc
      go_wp2_with fail
      have hAk := HA.out l[k] vvals
      rw [hAk]
      clear hAk
      refine (HC.out k hlt _ _ _ hbel hvals).mono ?_
      rintro e w1 ⟨rfl, hb1⟩
      have hb2 := hbel.trans (hb1.mono hbel.size)
      cases hp : p l[k] with
      | true =>
        have Hf := Lib.hid (idxI_at p l k hlt hp HN.out)
        clear hp
        go_wp2
        go_ret
        exact ⟨ret_int (by rw [Hf.out]), hb2⟩
      | false =>
        have HN2 := Lib.hid (show ∀ j (hj : j < l.length), j < k + 1 → p l[j] = false from fun j hj h1 => by
          by_cases e : j = k
          · subst e; exact hp
          · exact HN.out j hj (by omega))
        clear hp
        go_wp2
        go_roundw
        case rel => exact ⟨k + 1, by go_num, by omega, HN2, hb2⟩
        case measure => simp [intOf]; omega
    · have hkl : k = l.length := by omega
      have Hf := Lib.hid (idxI_none p l (fun j hj => HN.out j hj (by omega)))
      go_wp2
      go_ret
      exact ⟨ret_int (by rw [Hf.out]), hbel⟩
theorem containsFuncFactO_any (K : Nat) (hK : Plain Tryz.prog K) (caps : Array Value) (A : FactD → Value → Array Value) (hA : ∀ (x : FactD) (vvals : Value) , #[.agg #[.int .i64 x.rel, vvals]] ++ caps = A x vvals) (p : FactD → Bool) (g0 q0 cq : Nat) (x0 : FactD) (l : List FactD) (f : List Nat) (w : World) (h : facts w (.slice (some ⟨g0, 0, none⟩) (l.length + 1) q0) (x0 :: l) f)
    (hcall : ∀ (i : Nat) (hi : i < l.length) (w' : World) (vvals : Value) (fvals : List Nat) , Below w.heap.size w w' → ints w' vvals l[i].vals fvals → Calls Tryz.prog K (A l[i] vvals) w' fun e w'' => e = .returned (.bool (p l[i])) ∧ Below w'.heap.size w' w'') :
    Calls Tryz.prog 87 #[.slice (some ⟨g0, 2, none⟩) l.length cq, .func (.func K) #[] caps] w fun e w' => e = .returned (.bool (l.any p)) ∧ Below w.heap.size w w' := by
  have HC := Lib.hid hcall
  have HA := Lib.hid hA
  have Ha := Lib.hid (idxI_any p l)
  clear hcall hA
  go_enter Tryz.func87, Tryz.ntmps87
  go_wp2_with fail
  refine (indexFuncFactO_any K hK caps A HA.out p g0 q0 cq x0 l f _ h HC.out).mono ?_
  rintro e w1 ⟨rfl, hb1⟩
  go_wp2
  go_ret
  exact ⟨ret_bool (by rw [← Ha.out]), hb1⟩

set_option maxRecDepth 100000 in
set_option maxHeartbeats 6400000 in
theorem specIsResponseO_any (vs : Value) (s : List Int) (fs : List Nat) (vl : Value) (l : List MethD) (fl : List Nat) (vf : Value) (fa : List FactD) (ff : List Nat) (x : AccD) (vx : Value) (fx : List Nat) (g0 q0 cq : Nat) (x0 : FactD) (r : List FactD) (fr : List Nat) (w : World) (hs : ints w vs s fs) (hl : meths w vl l fl) (hf : facts w vf fa ff) (hx : ints w vx x.vals fx) (hr : facts w (.slice (some ⟨g0, 0, none⟩) (r.length + 1) q0) (x0 :: r) fr) (hn : fa.length ≤ 1048576) (hln : ∀ y ∈ fa, y.vals.length ≤ 1048576) :
    Calls Tryz.prog 27 #[vs, vl, vf, .agg #[.int .i64 x.meth, vx], .slice (some ⟨g0, 2, none⟩) r.length cq] w fun e w' => e = .returned (.bool (respB s l fa x r)) ∧ Below w.heap.size w w' := by
  obtain ⟨m, vals⟩ := x
  obtain ⟨ps, cs, rfl⟩ := slR.form hs
  obtain ⟨pl, cl, rfl⟩ := slR.form hl
  obtain ⟨pf, cf, rfl⟩ := slR.form hf
  obtain ⟨px, cx, rfl⟩ := slR.form hx
  have hla := slR.le_max hl
  have hlr : r.length ≤ 9223372036854775807 := by have := slR.le_max hr; simp only [List.length_cons] at this; omega
  have Hln := Lib.hid hln
  have hb0 : Below w.heap.size w (w.alloc (.cells #[.int .i64 m, .slice px vals.length cx] 28)) := ba (Below.refl _ _)
  have hs0 := hs.below' hb0
  have hl0 := hl.below' hb0
  have hf0 := hf.below' hb0
  have hx0 := hx.below' hb0
  have hr0 := hr.below' hb0
  have c0 : (w.alloc (.cells #[.int .i64 m, .slice px vals.length cx] 28)).cell? ⟨w.heap.size, 0, none⟩ = some (.int .i64 m) := cell_new w _ _ 0 _ rfl
  have c1 : (w.alloc (.cells #[.int .i64 m, .slice px vals.length cx] 28)).cell? ⟨w.heap.size, 1, none⟩ = some (.slice px vals.length cx) := cell_new w _ _ 1 _ rfl
  clear hln
  cases hA : accB s l ⟨m, vals⟩ with
  | false =>
    have Hf := Lib.hid (respB_no1 (fa := fa) (r := r) hA)
    have HIA := Lib.hid (show Calls Tryz.prog 14 #[.slice ps s.length cs, .slice pl l.length cl, .agg #[.int .i64 m, .slice px vals.length cx]] (w.alloc (.cells #[.int .i64 m, .slice px vals.length cx] 28)) (fun e w' => e = .returned (.bool false) ∧ Below (w.alloc (.cells #[.int .i64 m, .slice px vals.length cx] 28)).heap.size (w.alloc (.cells #[.int .i64 m, .slice px vals.length cx] 28)) w') from retBB (specIsAccess_any _ s fs _ l fl ⟨m, vals⟩ _ fx _ hs0 hl0 hx0) hA)
    clear hA
    go_enter Tryz.func27, Tryz.ntmps27
    go_wp2_with (first
      | (go_at_call 14; refine HIA.out.mono ?_; rintro e w2 ⟨rfl, hb2⟩; have e0 := cell_below c0 hb2; have e1 := cell_below c1 hb2))
    go_ret
    exact ⟨ret_bool (by rw [Hf.out]), bt hb0 hb2⟩
  | true =>
    have HIA := Lib.hid (show Calls Tryz.prog 14 #[.slice ps s.length cs, .slice pl l.length cl, .agg #[.int .i64 m, .slice px vals.length cx]] (w.alloc (.cells #[.int .i64 m, .slice px vals.length cx] 28)) (fun e w' => e = .returned (.bool true) ∧ Below (w.alloc (.cells #[.int .i64 m, .slice px vals.length cx] 28)).heap.size (w.alloc (.cells #[.int .i64 m, .slice px vals.length cx] 28)) w') from retBB (specIsAccess_any _ s fs _ l fl ⟨m, vals⟩ _ fx _ hs0 hl0 hx0) hA)
    cases hF1 : factsB s fa with
    | false =>
      have Hf := Lib.hid (respB_no2 (l := l) (r := r) (a := ⟨m, vals⟩) hF1)
      have HF1 := Lib.hid (show ∀ W : World, Below (w.alloc (.cells #[.int .i64 m, .slice px vals.length cx] 28)).heap.size (w.alloc (.cells #[.int .i64 m, .slice px vals.length cx] 28)) W → Calls Tryz.prog 15 #[.slice ps s.length cs, .slice pf fa.length cf] W (fun e w' => e = .returned (.bool false) ∧ Below W.heap.size W w') from fun W hb => retBB (specAreFacts_any _ s fs _ fa ff W (hs0.below' hb) (hf0.below' hb)) hF1)
      clear hA hF1
      go_enter Tryz.func27, Tryz.ntmps27
      go_wp2_with (first
        | (go_at_call 14; refine HIA.out.mono ?_; rintro e w2 ⟨rfl, hb2⟩; have e0 := cell_below c0 hb2; have e1 := cell_below c1 hb2)
        | ((go_at_call 15); ((with_reducible refine (HF1.out _ hb2).mono ?_); rintro e w3 ⟨rfl, hb3⟩; have hb23 := bt hb2 hb3; have e2 := cell_below c0 hb23; have e3 := cell_below c1 hb23)))
      go_ret
      exact ⟨ret_bool (by rw [Hf.out]), bt hb0 hb23⟩
    | true =>
      have HF1 := Lib.hid (show ∀ W : World, Below (w.alloc (.cells #[.int .i64 m, .slice px vals.length cx] 28)).heap.size (w.alloc (.cells #[.int .i64 m, .slice px vals.length cx] 28)) W → Calls Tryz.prog 15 #[.slice ps s.length cs, .slice pf fa.length cf] W (fun e w' => e = .returned (.bool true) ∧ Below W.heap.size W w') from fun W hb => retBB (specAreFacts_any _ s fs _ fa ff W (hs0.below' hb) (hf0.below' hb)) hF1)
      cases hF2 : factsB s r with
      | false =>
        have Hf := Lib.hid (respB_no3 (l := l) (fa := fa) (a := ⟨m, vals⟩) hF2)
        have HF2 := Lib.hid (show ∀ W : World, Below (w.alloc (.cells #[.int .i64 m, .slice px vals.length cx] 28)).heap.size (w.alloc (.cells #[.int .i64 m, .slice px vals.length cx] 28)) W → Calls Tryz.prog 15 #[.slice ps s.length cs, .slice (some ⟨g0, 2, none⟩) r.length cq] W (fun e w' => e = .returned (.bool false) ∧ Below W.heap.size W w') from fun W hb => retBB (specAreFactsO_any _ s fs g0 q0 cq x0 r fr W (hs0.below' hb) (hr0.below' hb)) hF2)
        clear hA hF1 hF2
        go_enter Tryz.func27, Tryz.ntmps27
        go_wp2_with (first
          | (go_at_call 14; refine HIA.out.mono ?_; rintro e w2 ⟨rfl, hb2⟩; have e0 := cell_below c0 hb2; have e1 := cell_below c1 hb2)
          | ((go_at_call 15); ((with_reducible refine (HF1.out _ hb2).mono ?_); rintro e w3 ⟨rfl, hb3⟩; have hb23 := bt hb2 hb3; have e2 := cell_below c0 hb23; have e3 := cell_below c1 hb23))
          | ((go_at_call 15); ((with_reducible refine (HF2.out _ hb23).mono ?_); rintro e w4 ⟨rfl, hb4⟩; have hb24 := bt hb23 hb4; have e4 := cell_below c0 hb24; have e5 := cell_below c1 hb24)))
        go_ret
        exact ⟨ret_bool (by rw [Hf.out]), bt hb0 hb24⟩
      | true =>
        have HF2 := Lib.hid (show ∀ W : World, Below (w.alloc (.cells #[.int .i64 m, .slice px vals.length cx] 28)).heap.size (w.alloc (.cells #[.int .i64 m, .slice px vals.length cx] 28)) W → Calls Tryz.prog 15 #[.slice ps s.length cs, .slice (some ⟨g0, 2, none⟩) r.length cq] W (fun e w' => e = .returned (.bool true) ∧ Below W.heap.size W w') from fun W hb => retBB (specAreFactsO_any _ s fs g0 q0 cq x0 r fr W (hs0.below' hb) (hr0.below' hb)) hF2)
        obtain ⟨q, hm, hq, hmb, hzz2, hfit⟩ := fit_of hA
        clear hzz2
        have hm' : m = (q : Int) := hm
        subst hm'
        obtain ⟨L, hL, hL9⟩ := limit_of hmb
        obtain ⟨X, hX⟩ : ∃ X, X = fa.filter (fitB l[q] vals) := ⟨_, rfl⟩
        have hXn : X.length ≤ 1048576 := by rw [hX]; exact Nat.le_trans (List.length_filter_le _ _) hn
        have H0 := Lib.hid (respB_yes hq hA hF1 hF2 hX.symm hL)
        have hH : ∀ y ∈ fa, Fit l[q] vals y := fun y hy => hfit y (factB_of_facts hF1 y hy)
        have HH := Lib.hid hH
        have hk0 : (0 : Int) ≤ (q : Int) := Int.natCast_nonneg _
        have hk1 : (q : Int) < (l.length : Int) := by omega
        obtain ⟨g, vi, fi, rfl, m0, m1, m2, m3, m4, hvi⟩ := hl0.get q hq
        obtain ⟨pi, ci, rfl⟩ := slR.form hvi
        rw [hL] at m2
        obtain ⟨WN, hWN⟩ : ∃ WN, wantN X.length L = WN := ⟨_, rfl⟩
        have HWNe := Lib.hid hWN
        have HWN := Lib.hid (want_int (r := r.length) (n := X.length) (L := L) WN hWN)
        generalize hR : respB s l fa ⟨(q : Int), vals⟩ r = R at H0 ⊢
        have HXe := Lib.hid hX
        have HLe := Lib.hid hL
        have hcall := fun (W : World) (hb : Below (w.alloc (.cells #[.int .i64 (q : Int), .slice px vals.length cx] 28)).heap.size (w.alloc (.cells #[.int .i64 (q : Int), .slice px vals.length cx] 28)) W) => l5Matches_any l[q] vals (.slice pi l[q].inputs.length ci) (.slice px vals.length cx) fi fx (.slice pf fa.length cf) fa ff W (hvi.below' hb) (hx0.below' hb) (hf0.below' hb) HH.out hn Hln.out
        rw [← hX, hL] at hcall
        have HC := Lib.hid hcall
        clear hfit hH hm hA hF1 hF2 hmb hL9 hX hR hL hWN hcall
        go_enter Tryz.func27, Tryz.ntmps27
        go_wp2_with (first
          | (go_at_call 14; refine HIA.out.mono ?_; rintro e w2 ⟨rfl, hb2⟩; have e0 := cell_below c0 hb2; have e1 := cell_below c1 hb2)
          | ((go_at_call 15); ((with_reducible refine (HF1.out _ hb2).mono ?_); rintro e w3 ⟨rfl, hb3⟩; have hb23 := bt hb2 hb3; have e2 := cell_below c0 hb23; have e3 := cell_below c1 hb23))
          | ((go_at_call 15); ((with_reducible refine (HF2.out _ hb23).mono ?_); rintro e w4 ⟨rfl, hb4⟩; have hb24 := bt hb23 hb4; have e4 := cell_below c0 hb24; have e5 := cell_below c1 hb24)))
        have hb04 := bt hb0 hb24
        have uc0 : w4.cell? ⟨w.heap.size, 0, none⟩ = some (.int .i64 (q : Int)) := cell_below c0 hb24
        have uc1 : w4.cell? ⟨w.heap.size, 1, none⟩ = some (.slice px vals.length cx) := cell_below c1 hb24
        have um0 : w4.cell? ⟨g, q * 5, none⟩ = some (.int .i64 l[q].rel) := cell_below m0 hb24
        have um1 : w4.cell? ⟨g, q * 5 + 1, none⟩ = some (.slice pi l[q].inputs.length ci) := cell_below m1 hb24
        have um2 : w4.cell? ⟨g, q * 5 + 2, none⟩ = some (.int .i64 (L : Int)) := cell_below m2 hb24
        have um3 : w4.cell? ⟨g, q * 5 + 3, none⟩ = some (.int .i64 l[q].cost) := cell_below m3 hb24
        have um4 : w4.cell? ⟨g, q * 5 + 4, none⟩ = some (.int .i64 l[q].quota) := cell_below m4 hb24
        go_region_held3 (fun w' => w'.cell? ⟨w.heap.size, 0, none⟩ = some (.int .i64 (q : Int)) ∧ w'.cell? ⟨w.heap.size, 1, none⟩ = some (.slice px vals.length cx) ∧ w'.cell? ⟨g, q * 5, none⟩ = some (.int .i64 l[q].rel) ∧ w'.cell? ⟨g, q * 5 + 1, none⟩ = some (.slice pi l[q].inputs.length ci) ∧ w'.cell? ⟨g, q * 5 + 2, none⟩ = some (.int .i64 (L : Int)) ∧ w'.cell? ⟨g, q * 5 + 3, none⟩ = some (.int .i64 l[q].cost) ∧ w'.cell? ⟨g, q * 5 + 4, none⟩ = some (.int .i64 l[q].quota)) (first | exact ⟨uc0, uc1, um0, um1, um2, um3, um4⟩ | exact ⟨zc0, zc1, zm0, zm1, zm2, zm3, zm4⟩)
          (first
            | (go_at_call 85
               refine (HC.out _ ?_).mono ?_
               · (repeat (first | exact hb24 | refine bdr ?_))
               rintro e w5 ⟨v5, f5, rfl, hu5, hfr5, hb5⟩
               have D45 : Below w4.heap.size w4 w5 := bt (by (repeat (first | exact Below.refl _ _ | refine bdr ?_))) hb5
               have D5 := bt hb24 D45
               have zc0 : w5.cell? ⟨w.heap.size, 0, none⟩ = some (.int .i64 (q : Int)) := cell_below c0 D5
               have zc1 : w5.cell? ⟨w.heap.size, 1, none⟩ = some (.slice px vals.length cx) := cell_below c1 D5
               have zm0 : w5.cell? ⟨g, q * 5, none⟩ = some (.int .i64 l[q].rel) := cell_below m0 D5
               have zm1 : w5.cell? ⟨g, q * 5 + 1, none⟩ = some (.slice pi l[q].inputs.length ci) := cell_below m1 D5
               have zm2 : w5.cell? ⟨g, q * 5 + 2, none⟩ = some (.int .i64 (L : Int)) := cell_below m2 D5
               have zm3 : w5.cell? ⟨g, q * 5 + 3, none⟩ = some (.int .i64 l[q].cost) := cell_below m3 D5
               have zm4 : w5.cell? ⟨g, q * 5 + 4, none⟩ = some (.int .i64 l[q].quota) := cell_below m4 D5
               clear hfr5))
        clear uc0 uc1 um0 um1 um2 um3 um4 zm0 zm1 zm3 zm4
        obtain ⟨a5, c5, rfl⟩ := slR.form hu5
        have hb05 := bt hb04 D45
        have hr5 := hr0.below' D5
        go_wp2
        go_loopw [12] (fun i wr => ∃ k : Nat, i = .int .i64 k ∧ k ≤ r.length ∧ Hid (∀ j (hj : j < r.length), j < k → (!hasFactB X r[j]) = false) ∧ Below w5.heap.size w5 wr) (fun i _ => r.length - (intOf i).toNat)
        case atStart => exact ⟨0, rfl, Nat.zero_le _, Lib.hid (fun j hj h0 => by omega), Below.refl _ _⟩
        case round =>
          obtain ⟨k, rfl, hk, HN, hbel⟩ := hrel
          have hbr := bt hb05 hbel
          have d0 := cell_below zc0 hbel
          have d2 := cell_below zm2 hbel
          by_cases hlt : k < r.length
          · obtain ⟨cc, fk, ⟨vy, rfl, iy, hy⟩, _, hc, _, _, _⟩ := facts_at1 (facts.below' hr5 hbel) k hlt
            obtain ⟨a', c', rfl⟩ := slR.form hy
            have y0 : wr.cell? ⟨g0, 2 + k * 2, none⟩ = some (.int .i64 r[k].rel) := hc 0 _ rfl
            have y1 : wr.cell? ⟨g0, 2 + k * 2 + 1, none⟩ = some (.slice a' r[k].vals.length c') := hc 1 _ rfl
            have hkl : (k : Int) < (r.length : Int) := by omega
            have hk00 : (0 : Int) ≤ (k : Int) := Int.natCast_nonneg _
            clear hc
            cases hp : hasFactB X r[k] with
            | false =>
              have Hg := Lib.hid (show R = false by rw [H0.out, any_true_of (p := fun y => !hasFactB X y) hlt (by simp [hp])]; simp)
              go_wp2_with (go_at_call 61; refine (retBB (specHasFact_any _ X f5 r[k] _ fk _ (hu5.below' hbel) hy) hp).mono ?_; rintro e w6 ⟨rfl, hb6⟩)
              have hbf := bt hbr hb6
              go_ret
              exact ⟨ret_bool (by rw [Hg.out]), hbf⟩
            | true =>
              have HN2 := Lib.hid (none_step (p := fun y => !hasFactB X y) HN.out hlt (by simp [hp]))
              go_wp2_with (go_at_call 61; refine (retBB (specHasFact_any _ X f5 r[k] _ fk _ (hu5.below' hbel) hy) hp).mono ?_; rintro e w6 ⟨rfl, hb6⟩)
              have hbf := bt hbel hb6
              go_roundw
              case rel => exact ⟨k + 1, by go_num, by omega, HN2, hbf⟩
              case measure => simp [intOf]; omega
          · have hkl : k = r.length := by omega
            have HA0 : (r.any fun y => !hasFactB X y) = false := any_false_of (p := fun y => !hasFactB X y) (fun i hi => HN.out i hi (by omega))
            have Hg := Lib.hid (show R = decide ((r.length : Int) = (WN : Int)) by rw [H0.out, HA0, HWN.out]; simp)
            clear HA0 hkl
            by_cases hL0 : L = 0
            · have hw : WN = X.length := by have := HWNe.out; rw [← this]; unfold wantN; rw [if_pos hL0]
              subst hw
              subst hL0
              go_wp2
              go_ret
              exact ⟨ret_bool (by rw [Hg.out] <;> rfl), hbr⟩
            · have hgt : (0 : Int) < (L : Int) := by omega
              by_cases hmn : L < X.length
              · have hw : WN = L := by have := HWNe.out; rw [← this]; unfold wantN; rw [if_neg hL0]; omega
                subst hw
                have hmn2 : (WN : Int) < (X.length : Int) := by omega
                have hmn3 : min (X.length : Int) (WN : Int) = (WN : Int) := by omega
                go_wp2
                go_ret
                exact ⟨ret_bool (by rw [Hg.out] <;> rfl), hbr⟩
              · have hw : WN = X.length := by have := HWNe.out; rw [← this]; unfold wantN; rw [if_neg hL0]; omega
                subst hw
                have hmn2 : ¬ ((L : Int) < (X.length : Int)) := by omega
                have hmn3 : min (X.length : Int) (L : Int) = (X.length : Int) := by omega
                go_wp2
                go_ret
                exact ⟨ret_bool (by rw [Hg.out] <;> rfl), hbr⟩
set_option maxRecDepth 100000 in
set_option maxHeartbeats 6400000 in
theorem implIsResponseO_any (vs : Value) (s : List Int) (fs : List Nat) (vl : Value) (l : List MethD) (fl : List Nat) (vf : Value) (fa : List FactD) (ff : List Nat) (x : AccD) (vx : Value) (fx : List Nat) (g0 q0 cq : Nat) (x0 : FactD) (r : List FactD) (fr : List Nat) (w : World) (hs : ints w vs s fs) (hl : meths w vl l fl) (hf : facts w vf fa ff) (hx : ints w vx x.vals fx) (hr : facts w (.slice (some ⟨g0, 0, none⟩) (r.length + 1) q0) (x0 :: r) fr) (hn : fa.length ≤ 1048576) (hln : ∀ y ∈ fa, y.vals.length ≤ 1048576) :
    Calls Tryz.prog 16 #[vs, vl, vf, .agg #[.int .i64 x.meth, vx], .slice (some ⟨g0, 2, none⟩) r.length cq] w fun e w' => e = .returned (.bool (respB s l fa x r)) ∧ Below w.heap.size w w' := by
  obtain ⟨m, vals⟩ := x
  obtain ⟨ps, cs, rfl⟩ := slR.form hs
  obtain ⟨pl, cl, rfl⟩ := slR.form hl
  obtain ⟨pf, cf, rfl⟩ := slR.form hf
  obtain ⟨px, cx, rfl⟩ := slR.form hx
  have hla := slR.le_max hl
  have hlr : r.length ≤ 9223372036854775807 := by have := slR.le_max hr; simp only [List.length_cons] at this; omega
  have Hln := Lib.hid hln
  have hb0 : Below w.heap.size w (w.alloc (.cells #[.int .i64 m, .slice px vals.length cx] 28)) := ba (Below.refl _ _)
  have hs0 := hs.below' hb0
  have hl0 := hl.below' hb0
  have hf0 := hf.below' hb0
  have hx0 := hx.below' hb0
  have hr0 := hr.below' hb0
  have c0 : (w.alloc (.cells #[.int .i64 m, .slice px vals.length cx] 28)).cell? ⟨w.heap.size, 0, none⟩ = some (.int .i64 m) := cell_new w _ _ 0 _ rfl
  have c1 : (w.alloc (.cells #[.int .i64 m, .slice px vals.length cx] 28)).cell? ⟨w.heap.size, 1, none⟩ = some (.slice px vals.length cx) := cell_new w _ _ 1 _ rfl
  clear hln
  cases hA : accB s l ⟨m, vals⟩ with
  | false =>
    have Hf := Lib.hid (respB_no1 (fa := fa) (r := r) hA)
    have HIA := Lib.hid (show Calls Tryz.prog 34 #[.slice ps s.length cs, .slice pl l.length cl, .agg #[.int .i64 m, .slice px vals.length cx]] (w.alloc (.cells #[.int .i64 m, .slice px vals.length cx] 28)) (fun e w' => e = .returned (.bool false) ∧ Below (w.alloc (.cells #[.int .i64 m, .slice px vals.length cx] 28)).heap.size (w.alloc (.cells #[.int .i64 m, .slice px vals.length cx] 28)) w') from retBB (implIsAccess_any _ s fs _ l fl ⟨m, vals⟩ _ fx _ hs0 hl0 hx0) hA)
    clear hA
    go_enter Tryz.func16, Tryz.ntmps16
    go_wp2_with (first
      | (go_at_call 34; refine HIA.out.mono ?_; rintro e w2 ⟨rfl, hb2⟩; have e0 := cell_below c0 hb2; have e1 := cell_below c1 hb2))
    go_ret
    exact ⟨ret_bool (by rw [Hf.out]), bt hb0 hb2⟩
  | true =>
    have HIA := Lib.hid (show Calls Tryz.prog 34 #[.slice ps s.length cs, .slice pl l.length cl, .agg #[.int .i64 m, .slice px vals.length cx]] (w.alloc (.cells #[.int .i64 m, .slice px vals.length cx] 28)) (fun e w' => e = .returned (.bool true) ∧ Below (w.alloc (.cells #[.int .i64 m, .slice px vals.length cx] 28)).heap.size (w.alloc (.cells #[.int .i64 m, .slice px vals.length cx] 28)) w') from retBB (implIsAccess_any _ s fs _ l fl ⟨m, vals⟩ _ fx _ hs0 hl0 hx0) hA)
    cases hF1 : factsB s fa with
    | false =>
      have Hf := Lib.hid (respB_no2 (l := l) (r := r) (a := ⟨m, vals⟩) hF1)
      have HF1 := Lib.hid (show ∀ W : World, Below (w.alloc (.cells #[.int .i64 m, .slice px vals.length cx] 28)).heap.size (w.alloc (.cells #[.int .i64 m, .slice px vals.length cx] 28)) W → Calls Tryz.prog 75 #[.slice ps s.length cs, .slice pf fa.length cf] W (fun e w' => e = .returned (.bool false) ∧ Below W.heap.size W w') from fun W hb => retBB (implAreFacts_any _ s fs _ fa ff W (hs0.below' hb) (hf0.below' hb)) hF1)
      clear hA hF1
      go_enter Tryz.func16, Tryz.ntmps16
      go_wp2_with (first
        | (go_at_call 34; refine HIA.out.mono ?_; rintro e w2 ⟨rfl, hb2⟩; have e0 := cell_below c0 hb2; have e1 := cell_below c1 hb2)
        | ((go_at_call 75); ((with_reducible refine (HF1.out _ hb2).mono ?_); rintro e w3 ⟨rfl, hb3⟩; have hb23 := bt hb2 hb3; have e2 := cell_below c0 hb23; have e3 := cell_below c1 hb23)))
      go_ret
      exact ⟨ret_bool (by rw [Hf.out]), bt hb0 hb23⟩
    | true =>
      have HF1 := Lib.hid (show ∀ W : World, Below (w.alloc (.cells #[.int .i64 m, .slice px vals.length cx] 28)).heap.size (w.alloc (.cells #[.int .i64 m, .slice px vals.length cx] 28)) W → Calls Tryz.prog 75 #[.slice ps s.length cs, .slice pf fa.length cf] W (fun e w' => e = .returned (.bool true) ∧ Below W.heap.size W w') from fun W hb => retBB (implAreFacts_any _ s fs _ fa ff W (hs0.below' hb) (hf0.below' hb)) hF1)
      cases hF2 : factsB s r with
      | false =>
        have Hf := Lib.hid (respB_no3 (l := l) (fa := fa) (a := ⟨m, vals⟩) hF2)
        have HF2 := Lib.hid (show ∀ W : World, Below (w.alloc (.cells #[.int .i64 m, .slice px vals.length cx] 28)).heap.size (w.alloc (.cells #[.int .i64 m, .slice px vals.length cx] 28)) W → Calls Tryz.prog 75 #[.slice ps s.length cs, .slice (some ⟨g0, 2, none⟩) r.length cq] W (fun e w' => e = .returned (.bool false) ∧ Below W.heap.size W w') from fun W hb => retBB (implAreFactsO_any _ s fs g0 q0 cq x0 r fr W (hs0.below' hb) (hr0.below' hb)) hF2)
        clear hA hF1 hF2
        go_enter Tryz.func16, Tryz.ntmps16
        go_wp2_with (first
          | (go_at_call 34; refine HIA.out.mono ?_; rintro e w2 ⟨rfl, hb2⟩; have e0 := cell_below c0 hb2; have e1 := cell_below c1 hb2)
          | ((go_at_call 75); ((with_reducible refine (HF1.out _ hb2).mono ?_); rintro e w3 ⟨rfl, hb3⟩; have hb23 := bt hb2 hb3; have e2 := cell_below c0 hb23; have e3 := cell_below c1 hb23))
          | ((go_at_call 75); ((with_reducible refine (HF2.out _ hb23).mono ?_); rintro e w4 ⟨rfl, hb4⟩; have hb24 := bt hb23 hb4; have e4 := cell_below c0 hb24; have e5 := cell_below c1 hb24)))
        go_ret
        exact ⟨ret_bool (by rw [Hf.out]), bt hb0 hb24⟩
      | true =>
        have HF2 := Lib.hid (show ∀ W : World, Below (w.alloc (.cells #[.int .i64 m, .slice px vals.length cx] 28)).heap.size (w.alloc (.cells #[.int .i64 m, .slice px vals.length cx] 28)) W → Calls Tryz.prog 75 #[.slice ps s.length cs, .slice (some ⟨g0, 2, none⟩) r.length cq] W (fun e w' => e = .returned (.bool true) ∧ Below W.heap.size W w') from fun W hb => retBB (implAreFactsO_any _ s fs g0 q0 cq x0 r fr W (hs0.below' hb) (hr0.below' hb)) hF2)
        obtain ⟨q, hm, hq, hmb, hzz2, hfit⟩ := fit_of hA
        clear hzz2
        have hm' : m = (q : Int) := hm
        subst hm'
        obtain ⟨L, hL, hL9⟩ := limit_of hmb
        obtain ⟨X, hX⟩ : ∃ X, X = fa.filter (fitB l[q] vals) := ⟨_, rfl⟩
        have hXn : X.length ≤ 1048576 := by rw [hX]; exact Nat.le_trans (List.length_filter_le _ _) hn
        have H0 := Lib.hid (respB_yes hq hA hF1 hF2 hX.symm hL)
        have hH : ∀ y ∈ fa, Fit l[q] vals y := fun y hy => hfit y (factB_of_facts hF1 y hy)
        have HH := Lib.hid hH
        have hk0 : (0 : Int) ≤ (q : Int) := Int.natCast_nonneg _
        have hk1 : (q : Int) < (l.length : Int) := by omega
        obtain ⟨g, vi, fi, rfl, m0, m1, m2, m3, m4, hvi⟩ := hl0.get q hq
        obtain ⟨pi, ci, rfl⟩ := slR.form hvi
        rw [hL] at m2
        obtain ⟨WN, hWN⟩ : ∃ WN, wantN X.length L = WN := ⟨_, rfl⟩
        have HWNe := Lib.hid hWN
        have HWN := Lib.hid (want_int (r := r.length) (n := X.length) (L := L) WN hWN)
        generalize hR : respB s l fa ⟨(q : Int), vals⟩ r = R at H0 ⊢
        have HXe := Lib.hid hX
        have HLe := Lib.hid hL
        have hcall := fun (W : World) (hb : Below (w.alloc (.cells #[.int .i64 (q : Int), .slice px vals.length cx] 28)).heap.size (w.alloc (.cells #[.int .i64 (q : Int), .slice px vals.length cx] 28)) W) => matches_any l fa q vals _ _ _ fl ff fx W (hl0.below' hb) (hf0.below' hb) (hx0.below' hb) hq HH.out hn Hln.out
        rw [← hX] at hcall
        have HC := Lib.hid hcall
        have hP := plain_of Tryz.func88 (by kernel_rfl) (by kernel_rfl)
        clear hfit hH hm hA hF1 hF2 hmb hL9 hX hR hL hWN hcall
        by_cases hL0 : L = 0
        · have hw : WN = X.length := by have := HWNe.out; rw [← this]; unfold wantN; rw [if_pos hL0]
          subst hw
          subst hL0
          cases hd : decide ((r.length : Int) = (X.length : Int)) with
          | false =>
            have Hg := Lib.hid (show R = false by rw [H0.out, HWN.out, hd]; rfl)
            have hne : ((r.length : Int) == (X.length : Int)) = false := hd
            go_enter Tryz.func16, Tryz.ntmps16
            go_wp2_with (first
              | (go_at_call 34; refine HIA.out.mono ?_; rintro e w2 ⟨rfl, hb2⟩; have e0 := cell_below c0 hb2; have e1 := cell_below c1 hb2)
              | ((go_at_call 75); ((with_reducible refine (HF1.out _ hb2).mono ?_); rintro e w3 ⟨rfl, hb3⟩; have hb23 := bt hb2 hb3; have e2 := cell_below c0 hb23; have e3 := cell_below c1 hb23))
              | ((go_at_call 75); ((with_reducible refine (HF2.out _ hb23).mono ?_); rintro e w4 ⟨rfl, hb4⟩; have hb24 := bt hb23 hb4; have e4 := cell_below c0 hb24; have e5 := cell_below c1 hb24))
              | (go_at_call 84; refine (HC.out _ hb24).mono ?_; rintro e w5 ⟨v5, f5, rfl, hg5, hb5⟩; obtain ⟨a5, c5, rfl⟩ := slR.form hg5.sl; have D5 := bt hb24 hb5; have z0 := cell_below c0 D5; have z2 := cell_below m2 D5; have z0a := fun o => cell_al z0 o; have z2a := fun o => cell_al z2 o; have zn := cell_new w5 26 #[.slice a5 X.length c5] 0 _ rfl))
            have hbf := ba (o := .cells #[.slice a5 X.length c5] 26) (bt hb0 D5)
            go_ret
            exact ⟨ret_bool (by rw [Hg.out]), hbf⟩
          | true =>
            have Hg := Lib.hid (show R = !(r.any fun y => !hasFactB X y) by rw [H0.out, HWN.out, hd]; simp)
            have hne : ((r.length : Int) == (X.length : Int)) = true := hd
            go_enter Tryz.func16, Tryz.ntmps16
            go_wp2_with (first
              | (go_at_call 34; refine HIA.out.mono ?_; rintro e w2 ⟨rfl, hb2⟩; have e0 := cell_below c0 hb2; have e1 := cell_below c1 hb2)
              | ((go_at_call 75); ((with_reducible refine (HF1.out _ hb2).mono ?_); rintro e w3 ⟨rfl, hb3⟩; have hb23 := bt hb2 hb3; have e2 := cell_below c0 hb23; have e3 := cell_below c1 hb23))
              | ((go_at_call 75); ((with_reducible refine (HF2.out _ hb23).mono ?_); rintro e w4 ⟨rfl, hb4⟩; have hb24 := bt hb23 hb4; have e4 := cell_below c0 hb24; have e5 := cell_below c1 hb24))
              | (go_at_call 84; refine (HC.out _ hb24).mono ?_; rintro e w5 ⟨v5, f5, rfl, hg5, hb5⟩; obtain ⟨a5, c5, rfl⟩ := slR.form hg5.sl; have D5 := bt hb24 hb5; have z0 := cell_below c0 D5; have z2 := cell_below m2 D5; have z0a := fun o => cell_al z0 o; have z2a := fun o => cell_al z2 o; have zn := cell_new w5 26 #[.slice a5 X.length c5] 0 _ rfl)
              | (go_at_call 87; refine (containsFuncFactO_any _ hP #[.pointer (some ⟨w5.heap.size, 0, none⟩)] (fun y vy => #[.agg #[.int .i64 y.rel, vy], .pointer (some ⟨w5.heap.size, 0, none⟩)]) (fun _ _ => rfl) (fun y => !hasFactB X y) g0 q0 cq x0 r fr _ ((hr0.below' D5).al _) (fun i hi w' vy fy hb hy => isResponse1_any X r[i] _ _ f5 fy _ w' ((facts.al (hg5.sl : facts _ _ X f5) _).below' hb) hy (cell_below zn hb))).mono ?_; rintro e w6 ⟨rfl, hb6⟩))
            have hbf := bt (ba (o := .cells #[.slice a5 X.length c5] 26) (bt hb0 D5)) hb6
            go_ret
            exact ⟨ret_bool (by rw [Hg.out] <;> rfl), hbf⟩
        · have hgt : (0 : Int) < (L : Int) := by omega
          by_cases hmn : L < X.length
          · have hw : WN = L := by have := HWNe.out; rw [← this]; unfold wantN; rw [if_neg hL0]; omega
            subst hw
            have hmn2 : (WN : Int) < (X.length : Int) := by omega
            have hmn3 : min (X.length : Int) (WN : Int) = (WN : Int) := by omega
            cases hd : decide ((r.length : Int) = (WN : Int)) with
            | false =>
              have Hg := Lib.hid (show R = false by rw [H0.out, HWN.out, hd]; rfl)
              have hne : ((r.length : Int) == (WN : Int)) = false := hd
              go_enter Tryz.func16, Tryz.ntmps16
              go_wp2_with (first
                | (go_at_call 34; refine HIA.out.mono ?_; rintro e w2 ⟨rfl, hb2⟩; have e0 := cell_below c0 hb2; have e1 := cell_below c1 hb2)
                | ((go_at_call 75); ((with_reducible refine (HF1.out _ hb2).mono ?_); rintro e w3 ⟨rfl, hb3⟩; have hb23 := bt hb2 hb3; have e2 := cell_below c0 hb23; have e3 := cell_below c1 hb23))
                | ((go_at_call 75); ((with_reducible refine (HF2.out _ hb23).mono ?_); rintro e w4 ⟨rfl, hb4⟩; have hb24 := bt hb23 hb4; have e4 := cell_below c0 hb24; have e5 := cell_below c1 hb24))
                | (go_at_call 84; refine (HC.out _ hb24).mono ?_; rintro e w5 ⟨v5, f5, rfl, hg5, hb5⟩; obtain ⟨a5, c5, rfl⟩ := slR.form hg5.sl; have D5 := bt hb24 hb5; have z0 := cell_below c0 D5; have z2 := cell_below m2 D5; have z0a := fun o => cell_al z0 o; have z2a := fun o => cell_al z2 o; have zn := cell_new w5 26 #[.slice a5 X.length c5] 0 _ rfl))
              have hbf := ba (o := .cells #[.slice a5 X.length c5] 26) (bt hb0 D5)
              go_ret
              exact ⟨ret_bool (by rw [Hg.out]), hbf⟩
            | true =>
              have Hg := Lib.hid (show R = !(r.any fun y => !hasFactB X y) by rw [H0.out, HWN.out, hd]; simp)
              have hne : ((r.length : Int) == (WN : Int)) = true := hd
              go_enter Tryz.func16, Tryz.ntmps16
              go_wp2_with (first
                | (go_at_call 34; refine HIA.out.mono ?_; rintro e w2 ⟨rfl, hb2⟩; have e0 := cell_below c0 hb2; have e1 := cell_below c1 hb2)
                | ((go_at_call 75); ((with_reducible refine (HF1.out _ hb2).mono ?_); rintro e w3 ⟨rfl, hb3⟩; have hb23 := bt hb2 hb3; have e2 := cell_below c0 hb23; have e3 := cell_below c1 hb23))
                | ((go_at_call 75); ((with_reducible refine (HF2.out _ hb23).mono ?_); rintro e w4 ⟨rfl, hb4⟩; have hb24 := bt hb23 hb4; have e4 := cell_below c0 hb24; have e5 := cell_below c1 hb24))
                | (go_at_call 84; refine (HC.out _ hb24).mono ?_; rintro e w5 ⟨v5, f5, rfl, hg5, hb5⟩; obtain ⟨a5, c5, rfl⟩ := slR.form hg5.sl; have D5 := bt hb24 hb5; have z0 := cell_below c0 D5; have z2 := cell_below m2 D5; have z0a := fun o => cell_al z0 o; have z2a := fun o => cell_al z2 o; have zn := cell_new w5 26 #[.slice a5 X.length c5] 0 _ rfl)
                | (go_at_call 87; refine (containsFuncFactO_any _ hP #[.pointer (some ⟨w5.heap.size, 0, none⟩)] (fun y vy => #[.agg #[.int .i64 y.rel, vy], .pointer (some ⟨w5.heap.size, 0, none⟩)]) (fun _ _ => rfl) (fun y => !hasFactB X y) g0 q0 cq x0 r fr _ ((hr0.below' D5).al _) (fun i hi w' vy fy hb hy => isResponse1_any X r[i] _ _ f5 fy _ w' ((facts.al (hg5.sl : facts _ _ X f5) _).below' hb) hy (cell_below zn hb))).mono ?_; rintro e w6 ⟨rfl, hb6⟩))
              have hbf := bt (ba (o := .cells #[.slice a5 X.length c5] 26) (bt hb0 D5)) hb6
              go_ret
              exact ⟨ret_bool (by rw [Hg.out] <;> rfl), hbf⟩
          · have hw : WN = X.length := by have := HWNe.out; rw [← this]; unfold wantN; rw [if_neg hL0]; omega
            subst hw
            have hmn2 : ¬ ((L : Int) < (X.length : Int)) := by omega
            have hmn3 : min (X.length : Int) (L : Int) = (X.length : Int) := by omega
            cases hd : decide ((r.length : Int) = (X.length : Int)) with
            | false =>
              have Hg := Lib.hid (show R = false by rw [H0.out, HWN.out, hd]; rfl)
              have hne : ((r.length : Int) == (X.length : Int)) = false := hd
              go_enter Tryz.func16, Tryz.ntmps16
              go_wp2_with (first
                | (go_at_call 34; refine HIA.out.mono ?_; rintro e w2 ⟨rfl, hb2⟩; have e0 := cell_below c0 hb2; have e1 := cell_below c1 hb2)
                | ((go_at_call 75); ((with_reducible refine (HF1.out _ hb2).mono ?_); rintro e w3 ⟨rfl, hb3⟩; have hb23 := bt hb2 hb3; have e2 := cell_below c0 hb23; have e3 := cell_below c1 hb23))
                | ((go_at_call 75); ((with_reducible refine (HF2.out _ hb23).mono ?_); rintro e w4 ⟨rfl, hb4⟩; have hb24 := bt hb23 hb4; have e4 := cell_below c0 hb24; have e5 := cell_below c1 hb24))
                | (go_at_call 84; refine (HC.out _ hb24).mono ?_; rintro e w5 ⟨v5, f5, rfl, hg5, hb5⟩; obtain ⟨a5, c5, rfl⟩ := slR.form hg5.sl; have D5 := bt hb24 hb5; have z0 := cell_below c0 D5; have z2 := cell_below m2 D5; have z0a := fun o => cell_al z0 o; have z2a := fun o => cell_al z2 o; have zn := cell_new w5 26 #[.slice a5 X.length c5] 0 _ rfl))
              have hbf := ba (o := .cells #[.slice a5 X.length c5] 26) (bt hb0 D5)
              go_ret
              exact ⟨ret_bool (by rw [Hg.out]), hbf⟩
            | true =>
              have Hg := Lib.hid (show R = !(r.any fun y => !hasFactB X y) by rw [H0.out, HWN.out, hd]; simp)
              have hne : ((r.length : Int) == (X.length : Int)) = true := hd
              go_enter Tryz.func16, Tryz.ntmps16
              go_wp2_with (first
                | (go_at_call 34; refine HIA.out.mono ?_; rintro e w2 ⟨rfl, hb2⟩; have e0 := cell_below c0 hb2; have e1 := cell_below c1 hb2)
                | ((go_at_call 75); ((with_reducible refine (HF1.out _ hb2).mono ?_); rintro e w3 ⟨rfl, hb3⟩; have hb23 := bt hb2 hb3; have e2 := cell_below c0 hb23; have e3 := cell_below c1 hb23))
                | ((go_at_call 75); ((with_reducible refine (HF2.out _ hb23).mono ?_); rintro e w4 ⟨rfl, hb4⟩; have hb24 := bt hb23 hb4; have e4 := cell_below c0 hb24; have e5 := cell_below c1 hb24))
                | (go_at_call 84; refine (HC.out _ hb24).mono ?_; rintro e w5 ⟨v5, f5, rfl, hg5, hb5⟩; obtain ⟨a5, c5, rfl⟩ := slR.form hg5.sl; have D5 := bt hb24 hb5; have z0 := cell_below c0 D5; have z2 := cell_below m2 D5; have z0a := fun o => cell_al z0 o; have z2a := fun o => cell_al z2 o; have zn := cell_new w5 26 #[.slice a5 X.length c5] 0 _ rfl)
                | (go_at_call 87; refine (containsFuncFactO_any _ hP #[.pointer (some ⟨w5.heap.size, 0, none⟩)] (fun y vy => #[.agg #[.int .i64 y.rel, vy], .pointer (some ⟨w5.heap.size, 0, none⟩)]) (fun _ _ => rfl) (fun y => !hasFactB X y) g0 q0 cq x0 r fr _ ((hr0.below' D5).al _) (fun i hi w' vy fy hb hy => isResponse1_any X r[i] _ _ f5 fy _ w' ((facts.al (hg5.sl : facts _ _ X f5) _).below' hb) hy (cell_below zn hb))).mono ?_; rintro e w6 ⟨rfl, hb6⟩))
              have hbf := bt (ba (o := .cells #[.slice a5 X.length c5] 26) (bt hb0 D5)) hb6
              go_ret
              exact ⟨ret_bool (by rw [Hg.out] <;> rfl), hbf⟩
end Go.Proofs.YtpdmdfkcaabnaaaGreatDoor
/- Plain laws: what FnMethods says of the data. No condition, no program in sight. -/
namespace Go.Proofs.YtpdmdfkcaabnaaaGreatDoor
open Go.RowKit
set_option linter.unusedVariables false
set_option linter.unusedSimpArgs false
theorem meth_fmt {s : List Int} {m : MethD} (h : methB s m = true) : methFB m = true := by
  unfold methB at h
  simp only [Bool.and_eq_true] at h
  obtain ⟨h1, h2⟩ := h
  obtain ⟨h3, h4⟩ := arity_bd h1
  have h4 := inR_true h4
  unfold methFB
  rw [h3]
  unfold fitsB at h2 ⊢
  simp only [Bool.and_eq_true, Bool.not_eq_true', List.any_eq_false] at h2 ⊢
  refine ⟨trivial, ⟨h2.1.1, fun i hi => ?_⟩, h2.2⟩
  have h5 : inR i 0 (arity s m.rel - 1) = true := by simpa using h2.1.2 i hi
  have h6 := inR_true h5
  have h7 : inR i 0 (3 - 1) = true := by unfold inR; simp; omega
  rw [h7]; simp
theorem methIs_self {s : List Int} {g m : MethD} {k : Bool} (h : MethIs s (methFS g) m k) : k = methB s g ∧ (k = true → m = g) := by
  rcases h with ⟨h1, h2, h3, rfl⟩ | ⟨h1, rfl, rfl⟩
  · have e1 := mOf_meth h2
    have hb : methFB g = true := by
      cases hg : methFB g with
      | true => rfl
      | false =>
        rw [methFS_no hg, methFS_yes h2] at h3
        cases h3
    have e2 := mOf_meth hb
    rw [h3] at e1
    have e : m = g := e1.symm.trans e2
    exact ⟨by rw [← e, h1], fun _ => e⟩
  · refine ⟨?_, fun h => by cases h⟩
    cases hg : methB s g with
    | false => rfl
    | true => exact absurd rfl (h1 g hg (meth_fmt hg))
theorem respond_sub {s : List Int} {l : List MethD} {fa : List FactD} {a : AccD} {c : Int} : ∀ y ∈ respondL s l fa a c, y ∈ matchesL s l fa a := by
  intro y hy
  unfold respondL at hy
  split at hy
  · exact hy
  · rename_i hn
    rw [not_or, not_or] at hn
    obtain ⟨t, ht, rfl⟩ := (respS_mem _ y).1 hy
    have hp : 0 < (matchesL s l fa a).length := Nat.pos_of_ne_zero hn.1
    have hw : winAt (matchesL s l fa a).length (c.toNat % (matchesL s l fa a).length) t < (matchesL s l fa a).length := Nat.mod_lt _ hp
    rw [getD_lt hw]
    exact List.getElem_mem hw
theorem factsB_of {s : List Int} {l : List FactD} (hs : schemaB s = true) (h : ∀ x ∈ l, factB s x = true) (ha : AscC cmpFact l) (hn : l.length ≤ 24) : factsB s l = true := by
  unfold factsB
  rw [anyN_false, hs, decide_eq_true hn]
  · rfl
  · intro j hj
    unfold factsBad
    rw [getD_lt hj, h _ (List.getElem_mem hj)]
    by_cases h0 : 0 < j
    · have hj1 : j - 1 < l.length := by omega
      rw [getD_lt hj1]
      have h2 := List.pairwise_iff_getElem.1 ha (j - 1) j hj1 hj (by omega)
      have h3 : ¬ 0 ≤ cmpFact l[j - 1] l[j] := by omega
      simp [h3]
    · simp [h0]
theorem asc_inj {x : List FactD} (ha : AscC cmpFact x) {i j : Nat} (hi : i < x.length) (hj : j < x.length) (h : x[i] = x[j]) : i = j := by
  rcases Nat.lt_trichotomy i j with hl | hl | hl
  · have h2 := List.pairwise_iff_getElem.1 ha i j hi hj hl
    rw [h, (cmpFact_zero _ _).2 rfl] at h2
    omega
  · exact hl
  · have h2 := List.pairwise_iff_getElem.1 ha j i hj hi hl
    rw [h, (cmpFact_zero _ _).2 rfl] at h2
    omega
theorem win_inj {n k i j : Nat} (hi : i < j) (hj : j < n) (hk : k < n) (h : winAt n k j = winAt n k i) : False := by
  unfold winAt at h
  by_cases h1 : k + j < n
  · rw [Nat.mod_eq_of_lt h1, Nat.mod_eq_of_lt (by omega)] at h; omega
  · rw [show k + j = (k + j - n) + n by omega, Nat.add_mod_right, Nat.mod_eq_of_lt (by omega)] at h
    by_cases h2 : k + i < n
    · rw [Nat.mod_eq_of_lt h2] at h; omega
    · rw [show k + i = (k + i - n) + n by omega, Nat.add_mod_right, Nat.mod_eq_of_lt (by omega)] at h; omega
theorem respS_len {x : List FactD} {k : Nat} (ha : AscC cmpFact x) (hk : k < x.length) : ∀ j, j ≤ x.length → (respS x k j).length = j := by
  intro j
  induction j with
  | zero => intro _; rfl
  | succ j ih =>
    intro hj
    have hw : ∀ t, winAt x.length k t < x.length := fun t => Nat.mod_lt _ (by omega)
    have hno : hasFactB (respS x k j) (x.getD (winAt x.length k j) ⟨0, []⟩) = false := by
      cases hb : hasFactB (respS x k j) (x.getD (winAt x.length k j) ⟨0, []⟩) with
      | false => rfl
      | true =>
        obtain ⟨t, ht, he⟩ := (respS_mem _ _).1 (hasFactB_iff.1 hb)
        rw [getD_lt (hw j), getD_lt (hw t)] at he
        exact (win_inj ht (by omega) hk (asc_inj ha (hw j) (hw t) he)).elim
    show (addFactL (respS x k j) _).length = j + 1
    rw [addFact_length, hno, ih (by omega)]
    rfl
theorem matches_yes {s : List Int} {l : List MethD} {fa : List FactD} {a : AccD} (h1 : accB s l a = true) (h2 : factsB s fa = true) : AscC cmpFact (matchesL s l fa a) := by
  unfold matchesL
  rw [h1, h2]
  exact factsB_filter h2 _
theorem factsB_schema {s : List Int} {l : List FactD} (h : factsB s l = true) : schemaB s = true := by
  unfold factsB at h
  simp only [Bool.and_eq_true] at h
  exact h.1.2
theorem respond_ok {s : List Int} {l : List MethD} {fa : List FactD} {a : AccD} {c : Int} (h1 : accB s l a = true) (h2 : factsB s fa = true) : respB s l fa a (respondL s l fa a c) = true := by
  have hX := matches_yes h1 h2
  have hs := factsB_schema h2
  have h24 := facts_24 h2
  have hXn := matchesL_len (s := s) (l := l) (fa := fa) (a := a)
  have hsub : ∀ y ∈ respondL s l fa a c, factB s y = true := fun y hy => factB_of_facts h2 y (matchesL_sub y (respond_sub y hy))
  have hany : ((respondL s l fa a c).any fun y => !hasFactB (matchesL s l fa a) y) = false := by
    rw [List.any_eq_false]
    intro y hy
    rw [hasFactB_iff.2 (respond_sub y hy)]; simp
  obtain ⟨q, hq, hql, hm, _, _⟩ := fit_of h1
  obtain ⟨L, hL, _⟩ := limit_of hm
  have hlim : (methAt l a.meth).limit = (L : Int) := by unfold methAt; rw [hq, Int.toNat_natCast, getD_lt hql]; exact hL
  have hfin : AscC cmpFact (respondL s l fa a c) ∧ (respondL s l fa a c).length = wantN (matchesL s l fa a).length (methAt l a.meth).limit.toNat := by
    rw [hlim, Int.toNat_natCast]
    unfold respondL wantN
    rw [hlim]
    split
    · rename_i h
      refine ⟨hX, ?_⟩
      split
      · rfl
      · rcases h with h | h | h <;> omega
    · rename_i h
      rw [not_or, not_or] at h
      obtain ⟨g1, g2, g3⟩ := h
      have hL0 : L ≠ 0 := by omega
      have hk : c.toNat % (matchesL s l fa a).length < (matchesL s l fa a).length := Nat.mod_lt _ (by omega)
      rw [if_neg hL0, Int.toNat_natCast]
      exact ⟨respS_asc _ _ _, by rw [respS_len hX hk L (by omega)]; omega⟩
  obtain ⟨ha, hn⟩ := hfin
  have hn24 : (respondL s l fa a c).length ≤ 24 := by
    rw [hn]; unfold wantN; split <;> omega
  unfold respB
  rw [h1, h2, factsB_of hs hsub ha hn24, hn, hany, decide_eq_true rfl]
  rfl
end Go.Proofs.YtpdmdfkcaabnaaaGreatDoor
/- SameFacts, of the program and of the reference. No condition. -/
namespace Go.Proofs.YtpdmdfkcaabnaaaGreatDoor
open Go.RowKit
set_option linter.unusedVariables false
set_option linter.unusedSimpArgs false
set_option maxRecDepth 100000 in
set_option maxHeartbeats 800000 in
theorem specSameFacts_any (va vb : Value) (l m : List FactD) (fa fb : List Nat) (w : World) (ha : facts w va l fa) (hb : facts w vb m fb) :
    Calls Tryz.prog 10 #[va, vb] w fun e w' => e = .returned (.bool (decide (l = m))) ∧ Below w.heap.size w w' := by
  obtain ⟨a, cap, rfl⟩ := slR.form ha
  obtain ⟨b, cap', rfl⟩ := slR.form hb
  have hla := slR.le_max ha
  by_cases hlen : l.length = m.length
  · have Hlen := Lib.hid hlen
    have hle : m.length ≤ l.length := by omega
    have hge : l.length ≤ m.length := by omega
    have hne0 : ((l.length : Int) != (m.length : Int)) = false := by simp [hlen]
    clear hlen
    go_enter Tryz.func10, Tryz.ntmps10
    go_wp2
    go_loopw [5] (fun i wr => ∃ k : Nat, i = .int .i64 k ∧ k ≤ l.length ∧ Hid (l.take k = m.take k) ∧ Below w.heap.size w wr) (fun i _ => l.length - (intOf i).toNat)
    case atStart => exact ⟨0, rfl, Nat.zero_le _, Lib.hid (by simp), Below.refl _ _⟩
    case round =>
      obtain ⟨k, rfl, hk, HT, hbel⟩ := hrel
      by_cases hlt : k < l.length
      · obtain ⟨g, c, fi, rfl, ⟨pvvals, rfl, pirel, hpvals⟩, _, hc, _, _, _⟩ := slR.at (ha.below' hbel) k hlt
        obtain ⟨g', c', fi', rfl, ⟨qvvals, rfl, qirel, hqvals⟩, _, hc', _, _, _⟩ := slR.at (hb.below' hbel) k (by omega)
        have hpc0 : wr.cell? ⟨g, k * 2, none⟩ = _ := hc 0 _ rfl
        have hqc0 : wr.cell? ⟨g', k * 2, none⟩ = _ := hc' 0 _ rfl
        have hpc1 : wr.cell? ⟨g, k * 2 + 1, none⟩ = _ := hc 1 _ rfl
        have hqc1 : wr.cell? ⟨g', k * 2 + 1, none⟩ = _ := hc' 1 _ rfl
        clear hc hc'
        have hkm : (k : Int) < (m.length : Int) := by omega
        have hkl : (k : Int) < (l.length : Int) := by omega
        by_cases he : l[k] = m[k]
        · have HS := Lib.hid (take_eq_step hlt (by omega) HT.out he)
          have hne : ((cmpFact l[k] m[k]) != (0 : Int)) = false := by simp [cmpFact_zero, he]
          clear he
          go_wp2
          have Hla := Lib.hid hla; clear hla
          refine wp_region_still_tail 8 (by kernel_rfl) (by kernel_rfl) ?_
          change wpStill _ _ (World.drew _) _ _ _
          simp only [List.take_succ_cons, List.take_zero, List.drop_succ_cons, List.drop_zero]
          iterate 8 still_step
          refine wpStill_nil ?_
          have hla := Hla.out
          change wpList _ _ _ _ _ wr.drew
          go_wp2_with fail
          refine (specCompareFacts_any l[k] m[k] _ _ _ _ _ (hpvals.below' (Below.drew (Below.refl _ _))) (hqvals.below' (Below.drew (Below.refl _ _)))).mono ?_
          rintro e w1 ⟨rfl, hb1⟩
          have hb2 : Below w.heap.size w w1 := Below.trans hbel.drew (hb1.mono hbel.size)
          go_wp2
          go_roundw
          case rel => exact ⟨k + 1, by go_num, by omega, HS, hb2⟩
          case measure => simp [intOf]; omega
        · have Hfin := Lib.hid (ne_of_get hlt (by omega) he)
          have hne : ((cmpFact l[k] m[k]) != (0 : Int)) = true := by simp [cmpFact_zero, he]
          clear he
          go_wp2
          have Hla := Lib.hid hla; clear hla
          refine wp_region_still_tail 8 (by kernel_rfl) (by kernel_rfl) ?_
          change wpStill _ _ (World.drew _) _ _ _
          simp only [List.take_succ_cons, List.take_zero, List.drop_succ_cons, List.drop_zero]
          iterate 8 still_step
          refine wpStill_nil ?_
          have hla := Hla.out
          change wpList _ _ _ _ _ wr.drew
          go_wp2_with fail
          refine (specCompareFacts_any l[k] m[k] _ _ _ _ _ (hpvals.below' (Below.drew (Below.refl _ _))) (hqvals.below' (Below.drew (Below.refl _ _)))).mono ?_
          rintro e w1 ⟨rfl, hb1⟩
          have hb2 : Below w.heap.size w w1 := Below.trans hbel.drew (hb1.mono hbel.size)
          go_wp2
          go_ret
          exact ⟨ret_bool (by simp [Hfin.out]), hb2⟩
      · have hkl : k = l.length := by omega
        have Hfin := Lib.hid (eq_of_take Hlen.out (by have := HT.out; rw [hkl] at this; exact this))
        go_wp2
        go_ret
        exact ⟨ret_bool (by simp [Hfin.out]), hbel⟩
  · have hne0 : ((l.length : Int) != (m.length : Int)) = true := by simp; omega
    have Hfin := Lib.hid (show l ≠ m from fun h => hlen (by rw [h]))
    clear hlen
    go_enter Tryz.func10, Tryz.ntmps10
    go_wp2
    go_ret
    exact ⟨ret_bool (by simp [Hfin.out]), Below.refl _ _⟩
theorem sameFacts1_any (x y : FactD) (vx vy : Value) (fx fy : List Nat) (w : World) (hx : ints w vx x.vals fx) (hy : ints w vy y.vals fy) :
    Calls Tryz.prog 150 #[.agg #[.int .i64 x.rel, vx], .agg #[.int .i64 y.rel, vy]] w fun e w' => e = .returned (.bool (cmpFact x y == 0)) ∧ Below w.heap.size w w' := by
  obtain ⟨a, cap, rfl⟩ := slR.form hx
  obtain ⟨b, cap', rfl⟩ := slR.form hy
  go_enter Tryz.func150, Tryz.ntmps150
  go_wp2_with fail
  refine (implCompareFacts_any x y _ _ fx fy _ ((hx.al _).al _) ((hy.al _).al _)).mono ?_
  rintro e w1 ⟨rfl, hb1⟩
  go_wp2
  go_ret
  exact ⟨ret_bool rfl, bt (ba (ba (Below.refl _ _))) hb1⟩
theorem cmpFact_dec (x y : FactD) : (cmpFact x y == 0) = decide (x = y) := by
  rw [Bool.eq_iff_iff]; simp [cmpFact_zero]
theorem implSameFacts_any (va vb : Value) (l m : List FactD) (fa fb : List Nat) (w : World) (ha : facts w va l fa) (hb : facts w vb m fb) :
    Calls Tryz.prog 76 #[va, vb] w fun e w' => e = .returned (.bool (decide (l = m))) ∧ Below w.heap.size w w' := by
  obtain ⟨a, cap, rfl⟩ := slR.form ha
  obtain ⟨b, cap', rfl⟩ := slR.form hb
  have hP := plain_of Tryz.func150 (by kernel_rfl) (by kernel_rfl)
  have Hf := Lib.hid (allEq_eq cmpFact_dec l m)
  go_enter Tryz.func76, Tryz.ntmps76
  go_wp2_with fail
  refine (equalFuncFact_any _ hP #[] (fun x y vx vy => #[.agg #[.int .i64 x.rel, vx], .agg #[.int .i64 y.rel, vy]]) (fun _ _ _ _ => rfl) (fun x y => cmpFact x y == 0) _ _ l m fa fb _ ha hb (fun i hi hj w' vx vy fx fy hb hx hy => sameFacts1_any _ _ _ _ _ _ _ hx hy)).mono ?_
  rintro e w1 ⟨rfl, hb1⟩
  go_wp2
  go_ret
  exact ⟨ret_bool (by rw [Hf.out]), hb1⟩
end Go.Proofs.YtpdmdfkcaabnaaaGreatDoor
/- ParseMethod of the program: it returns what 'MethIs' says. Conditions: the text is no longer than 2^20; what the library's own variables hold. -/
namespace Go.Proofs.YtpdmdfkcaabnaaaGreatDoor
open Go.RowKit
set_option linter.unusedVariables false
set_option linter.unusedSimpArgs false
def inI (t : List UInt8) : List Int := if t = [102, 114, 101, 101] then [] else valI (cutL 44 t)
def okI (w : List (List UInt8)) : Bool := (decide (w.getD 2 [] = [102, 114, 101, 101]) || allI (cutL 44 (w.getD 2 []))) && (pInt (Lib.trimPrefix (w.getD 0 []) [114])).isSome
def mI (w : List (List UInt8)) : MethD := ⟨(pInt (Lib.trimPrefix (w.getD 0 []) [114])).getD 0, inI (w.getD 2 []), (pInt (w.getD 4 [])).getD 0, (pInt (w.getD 6 [])).getD 0, (pInt (w.getD 8 [])).getD 0⟩
theorem mI_meth {m : MethD} (h : methFB m = true) : okI (cutL 32 (methFS m)) = true ∧ mI (cutL 32 (methFS m)) = m := by
  obtain ⟨h1, h2, h3, h4, h5⟩ := meth_small (s := []) h
  obtain ⟨h6, h7⟩ := allI_itoa h5
  rw [cut_meth h]
  unfold okI mI
  simp only [List.getD_cons_zero, List.getD_cons_succ, trimP, pInt_itoa h1.1 h1.2, pInt_itoa h2.1 h2.2, pInt_itoa h3.1 h3.2, pInt_itoa h4.1 h4.2]
  unfold inI inpS
  by_cases hl : 0 < m.inputs.length
  · rw [if_pos hl, if_neg (inp_free hl), cut_inp hl, h6, h7]
    simp
  · have e : m.inputs = [] := by cases h : m.inputs with
      | nil => rfl
      | cons x t => rw [h] at hl; simp at hl
    obtain ⟨a, b, c, d, f⟩ := m
    simp only at e
    subst e
    simp
theorem fs_yes {m : MethD} {t : List UInt8} {W : List (List UInt8)} (hW : cutL 32 t = W) (h9 : W.length = 9) (h2 : methFS m = t) : methFB m = true := by
  cases h : methFB m with
  | true => rfl
  | false =>
    rw [methFS_no h] at h2
    subst h2
    rw [← hW] at h9
    simp [cutL] at h9
theorem pm_noI {s : List Int} {t : List UInt8} {W : List (List UInt8)} (hW : cutL 32 t = W) (h : okI W = false ∨ methB s (mI W) = false ∨ methFS (mI W) ≠ t) : ∀ n, methB s n = true → methFB n = true → methFS n ≠ t := by
  intro n h1 h2 e
  obtain ⟨h3, h4⟩ := mI_meth h2
  rw [e, hW] at h3 h4
  rw [h3, h4] at h
  rcases h with h | h | h
  · cases h
  · rw [h] at h1; cases h1
  · exact h e
/-- Three pointers into a box. -/
def Lit3 (w : World) (gl g : Nat) : Prop := w.cell? ⟨gl, 0, none⟩ = some (.pointer (some ⟨g, 2, none⟩)) ∧ w.cell? ⟨gl, 1, none⟩ = some (.pointer (some ⟨g, 3, none⟩)) ∧ w.cell? ⟨gl, 2, none⟩ = some (.pointer (some ⟨g, 4, none⟩))
theorem Lit3.sx {X : List Nat} {w w' : World} {gl g : Nat} (h : Lit3 w gl g) (s : SX X w w') (hg : gl ∉ X) : Lit3 w' gl g := ⟨s.cell h.1 hg, s.cell h.2.1 hg, s.cell h.2.2 hg⟩
theorem Lit3.lt {w : World} {gl g : Nat} (h : Lit3 w gl g) : gl < w.heap.size := lt_of_cell h.1
def sel (k j : Nat) (x : Int) : Int := if j < k then x else 0
theorem gr_ge {α : Type} {E : TypeId} {sz B : Nat} {R : Rd α} {w : World} {g n cap : Nat} {l : List α} {f : List Nat} (h : grR E sz R B w (.slice (some ⟨g, 0, none⟩) n cap) l f) : B ≤ g := gr_base h g rfl
set_option maxRecDepth 100000 in
set_option maxHeartbeats 12800000 in
theorem implParseMethod_any (vs : Value) (s : List Int) (fs : List Nat) (t : ByteArray) (w : World) (hs : ints w vs s fs) (ht : t.size ≤ 1048576) (hL : LibW w) :
    Calls Tryz.prog 19 #[vs, .string t] w (PmEnd s t.data.toList w) := by
  have hb0 : Below w.heap.size w (w.alloc (.cells #[.int .i64 0, .slice none 0 0, .int .i64 0, .int .i64 0, .int .i64 0] 38)) := ba (Below.refl _ _)
  have h40 : Five (w.alloc (.cells #[.int .i64 0, .slice none 0 0, .int .i64 0, .int .i64 0, .int .i64 0] 38)) w.heap.size (.int .i64 0) (.slice none 0 0) (.int .i64 0) (.int .i64 0) (.int .i64 0) := Five.new _ _ _ _ _ _ _
  have HLW := Lib.hid hL
  have hq := split1_any t 32 _ ht (HLW.out.on hb0).2.2.2
  obtain ⟨W, hW⟩ : ∃ W, cutL 32 t.data.toList = W := ⟨_, rfl⟩
  have HW := Lib.hid hW
  have Hpl := Lib.hid (show ∀ p ∈ W, p.length ≤ 1048576 from fun p hp => Nat.le_trans (cutL_piece 32 _ p (by rw [hW]; exact hp)) (by simpa using ht))
  have Hpl9 := Lib.hid (show W.length = 9 → ∀ p ∈ W, p.length ≤ 1048568 from fun h9 p hp => by
    have h1 := cutL_sum 32 t.data.toList
    have h2 := sum_ge_mem (f := List.length) hp
    rw [hW, h9] at h1
    have h3 : t.data.toList.length = t.size := by simp
    omega)
  rw [hW] at hq
  clear hW hL
  go_enter Tryz.func19, Tryz.ntmps19
  go_wp2_with fail
  refine hq.mono ?_
  rintro e w1 ⟨gw, cw, fw, rfl, hgw0, hb1⟩
  have B1 := bt hb0 hb1
  have h41 := h40.below hb1
  have hgwlt : gw < w1.heap.size := (strs_cells hgw0 rfl).2.1
  clear hq h40
  have hba1 : Below w1.heap.size w1 (w1.alloc (.cells #[.int .i64 0, .slice none 0 0, .int .i64 0, .int .i64 0, .int .i64 0] 38)) := ba (Below.refl _ _)
  by_cases h9 : W.length = 9
  case neg =>
    have h9i : ((W.length : Int) == 9) = false := by rw [beq_eq_false_iff_ne]; omega
    have HN := Lib.hid (show ∀ n, methB s n = true → methFB n = true → methFS n ≠ t.data.toList from fun n h1 h2 e => h9 (by rw [← HW.out]; exact (meth_words h2 e).1))
    have H4e := Lib.hid (h41.below hba1)
    clear h9
    have H4y := H4e.out
    obtain ⟨⟨r0, r1, r2, r3, r4⟩, q0, q1, q2, q3, q4⟩ := H4y
    go_wp2
    (try simp only [Exit.inBlock, Exit.then])
    refine bodyPost_ret (v := .tuple #[.agg #[.int .i64 0, .slice none 0 0, .int .i64 0, .int .i64 0, .int .i64 0], .bool false]) ?_ rfl ?_
    · rw [results_cell_tmp rfl]
      simp [asAddr, Result.andThen, load_set5 H4e.out]
    · exact PmEnd.no rfl HN.out (below_set5 (bt B1 hba1) (Nat.le_refl _) _ _ _ _ _)
  have H9 := Lib.hid h9
  obtain ⟨a0, a1, a2, a3, a4, a5, a6, a7, a8, rfl⟩ := nine h9
  clear h9
  have hqT : ∀ w, Calls Tryz.prog 98 #[.string ⟨a0.toArray⟩, .string ⟨#[114]⟩] w fun e w' => e = .returned (.string ⟨(Lib.trimPrefix a0 [114]).toArray⟩) ∧ w = w' := fun w => (Tryz.strings_TrimPrefix ⟨a0.toArray⟩ ⟨#[114]⟩ w).mono (by rintro e w' ⟨rfl, rfl⟩; exact ⟨rfl, rfl⟩)
  obtain ⟨r, hr⟩ : ∃ r, (pInt (Lib.trimPrefix a0 [114])).getD 0 = r := ⟨_, rfl⟩
  obtain ⟨kr, hkr⟩ : ∃ kr, (pInt (Lib.trimPrefix a0 [114])).isSome = kr := ⟨_, rfl⟩
  obtain ⟨x4, hx4⟩ : ∃ x, (pInt a4).getD 0 = x := ⟨_, rfl⟩
  obtain ⟨x6, hx6⟩ : ∃ x, (pInt a6).getD 0 = x := ⟨_, rfl⟩
  obtain ⟨x8, hx8⟩ : ∃ x, (pInt a8).getD 0 = x := ⟨_, rfl⟩
  have hp0 : ∀ w, LibW w → Calls Tryz.prog 97 #[.string ⟨(Lib.trimPrefix a0 [114]).toArray⟩] w fun e w' => e = .returned (.tuple #[.int .i64 r, .bool kr]) ∧ Below w.heap.size w w' := fun w h => ret2 (libParseInt_any ⟨(Lib.trimPrefix a0 [114]).toArray⟩ w (arr_sz _ (Nat.le_trans (Lib.trimPrefix_le _ _) (Hpl.out a0 (by simp)))) h) hr hkr
  have hp4 : ∀ w, LibW w → Calls Tryz.prog 97 #[.string ⟨a4.toArray⟩] w fun e w' => e = .returned (.tuple #[.int .i64 x4, .bool (pInt a4).isSome]) ∧ Below w.heap.size w w' := fun w h => ret2 (libParseInt_any ⟨a4.toArray⟩ w (arr_sz _ (Hpl.out a4 (by simp))) h) hx4 rfl
  have hp6 : ∀ w, LibW w → Calls Tryz.prog 97 #[.string ⟨a6.toArray⟩] w fun e w' => e = .returned (.tuple #[.int .i64 x6, .bool (pInt a6).isSome]) ∧ Below w.heap.size w w' := fun w h => ret2 (libParseInt_any ⟨a6.toArray⟩ w (arr_sz _ (Hpl.out a6 (by simp))) h) hx6 rfl
  have hp8 : ∀ w, LibW w → Calls Tryz.prog 97 #[.string ⟨a8.toArray⟩] w fun e w' => e = .returned (.tuple #[.int .i64 x8, .bool (pInt a8).isSome]) ∧ Below w.heap.size w w' := fun w h => ret2 (libParseInt_any ⟨a8.toArray⟩ w (arr_sz _ (Hpl.out a8 (by simp))) h) hx8 rfl
  have hokr : ∀ x, kr = x → (pInt (Lib.trimPrefix a0 [114])).isSome = x := fun x e => e ▸ hkr
  have hgwg : gw ≠ w1.heap.size := by omega
  have hgw : w.heap.size < w1.heap.size := h41.lt
  have HR := Lib.hid (show ∀ inp, inI a2 = inp → mI [a0, a1, a2, a3, a4, a5, a6, a7, a8] = (⟨r, inp, x4, x6, x8⟩ : MethD) from fun inp h => by
    unfold mI; simp only [List.getD_cons_zero, List.getD_cons_succ]; rw [hr, hx4, hx6, hx8, h])
  have HO := Lib.hid (show ∀ x, kr = x → okI [a0, a1, a2, a3, a4, a5, a6, a7, a8] = ((decide (a2 = [102, 114, 101, 101]) || allI (cutL 44 a2)) && x) from fun x e => by
    unfold okI; simp only [List.getD_cons_zero, List.getD_cons_succ]; rw [hkr, e])
  clear hr hkr hx4 hx6 hx8 hokr
  have p0' := strs_at2 hgw0 rfl 0 (by simp)
  have p2' := strs_at2 hgw0 rfl 2 (by simp)
  have p4' := strs_at2 hgw0 rfl 4 (by simp)
  have p6' := strs_at2 hgw0 rfl 6 (by simp)
  have p8' := strs_at2 hgw0 rfl 8 (by simp)
  simp only [List.getElem_cons_zero, List.getElem_cons_succ] at p0' p2' p4' p6' p8'
  have F0 := Five.new w1 38 (.int .i64 0) (.slice none 0 0) (.int .i64 0) (.int .i64 0) (.int .i64 0)
  by_cases hfree : a2 = [102, 114, 101, 101]
  · have hfb : (a2 == [102, 114, 101, 101]) = true := by simp [hfree]
    have HMI := Lib.hid (HR.out [] (by unfold inI; rw [if_pos hfree]))
    have HOK := Lib.hid (show ∀ x, kr = x → okI [a0, a1, a2, a3, a4, a5, a6, a7, a8] = x from fun x e => by rw [HO.out x e, decide_eq_true hfree]; rfl)
    clear hfree
    have Bz := bt B1 hba1
    have F := F0
    have H4z := Lib.hid (h41.below hba1)
    have p0 := cell_below p0' hba1
    have p2 := cell_below p2' hba1
    have p4 := cell_below p4' hba1
    have p6 := cell_below p6' hba1
    have p8 := cell_below p8' hba1
    have hin0 : ints (w1.alloc (.cells #[.int .i64 0, .slice none 0 0, .int .i64 0, .int .i64 0, .int .i64 0] 38)) (.slice none 0 0) [] [] := slR.nilv _ _ _ _
    have hlb : ([] : List Int).length ≤ 1048576 := by simp
    have Hg := Lib.hid (show w1.heap.size ∉ ([] : List Nat) by simp)
    have Hnot := Lib.hid (show w.heap.size ∉ ([] : List Nat) by simp)
    have Hfr := Lib.hid (Fresh.nil w.heap.size)
    go_wp2_with fail
    refine (hqT _).mono ?_
    rintro e wt ⟨rfl, rfl⟩
    go_wp2_with fail
    refine (hp0 _ (HLW.out.on Bz)).mono ?_
    rintro e wa ⟨rfl, hba⟩
    have Ba := bt Bz hba
    have Fa := F.below hba
    have Fa2 := Fa
    obtain ⟨⟨f0, f1, f2, f3, f4⟩, y0, y1, y2, y3, y4⟩ := Fa2
    have q4 := cell_below p4 hba
    have q6 := cell_below p6 hba
    have q8 := cell_below p8 hba
    have hgwa : w1.heap.size < wa.heap.size := Fa.lt
    have hina := hin0.below' hba
    have HFl := Lib.hid (show Five ((wa.setCell ⟨w1.heap.size, 0, none⟩ (.int .i64 r)).alloc (.cells #[.pointer (some ⟨w1.heap.size, 2, none⟩), .pointer (some ⟨w1.heap.size, 3, none⟩), .pointer (some ⟨w1.heap.size, 4, none⟩)] 123)) w1.heap.size (.int .i64 r) (.slice none 0 0) (.int .i64 0) (.int .i64 0) (.int .i64 0) from (Fa.set0 (.int .i64 r)).below (ba (Below.refl _ _)))
    have HLl := Lib.hid (show Lit3 ((wa.setCell ⟨w1.heap.size, 0, none⟩ (.int .i64 r)).alloc (.cells #[.pointer (some ⟨w1.heap.size, 2, none⟩), .pointer (some ⟨w1.heap.size, 3, none⟩), .pointer (some ⟨w1.heap.size, 4, none⟩)] 123)) wa.heap.size w1.heap.size from by
      have hs : (wa.setCell ⟨w1.heap.size, 0, none⟩ (.int .i64 r)).heap.size = wa.heap.size := by simp [World.setCell]
      exact ⟨cell_at _ _ hs _ _ 0 _ rfl, cell_at _ _ hs _ _ 1 _ rfl, cell_at _ _ hs _ _ 2 _ rfl⟩)
    have HSl := Lib.hid (show SX [w1.heap.size] wa ((wa.setCell ⟨w1.heap.size, 0, none⟩ (.int .i64 r)).alloc (.cells #[.pointer (some ⟨w1.heap.size, 2, none⟩), .pointer (some ⟨w1.heap.size, 3, none⟩), .pointer (some ⟨w1.heap.size, 4, none⟩)] 123)) from (SX.set ⟨w1.heap.size, 0, none⟩ _).below (ba (Below.refl _ _)))
    have HBl := Lib.hid (show Below w.heap.size w ((wa.setCell ⟨w1.heap.size, 0, none⟩ (.int .i64 r)).alloc (.cells #[.pointer (some ⟨w1.heap.size, 2, none⟩), .pointer (some ⟨w1.heap.size, 3, none⟩), .pointer (some ⟨w1.heap.size, 4, none⟩)] 123)) from ba (bs Ba (Nat.le_of_lt hgw)))
    go_wp2
    go_loopw [50] (fun i wr => ∃ (k : Nat) (ki : Int), i = .int .i64 ki ∧ Hid (ki = (k : Int)) ∧ k ≤ 3 ∧ Five wr w1.heap.size (.int .i64 r) (.slice none 0 0) (.int .i64 (sel k 0 x4)) (.int .i64 (sel k 1 x6)) (.int .i64 (sel k 2 x8)) ∧ SX [w1.heap.size] wa wr ∧ Lit3 wr wa.heap.size w1.heap.size ∧ Below w.heap.size w wr) (fun i _ => 3 - (intOf i).toNat)
    case atStart => exact ⟨0, 0, rfl, Lib.hid rfl, by omega, by first | exact HFl.out | simpa [sel] using HFl.out, HSl.out, HLl.out, HBl.out⟩
    case round =>
      obtain ⟨k, ki, rfl, HK, hk, F, hsx, hlit, Br⟩ := hrel
      have hgl := hlit.lt
      rcases (show k = 0 ∨ k = 1 ∨ k = 2 ∨ k = 3 by omega) with rfl | rfl | rfl | rfl
      · obtain rfl : ki = 0 := by have := HK.out; omega
        have Fk := F
        obtain ⟨⟨f0, f1, f2, f3, f4⟩, y0, y1, y2, y3, y4⟩ := Fk
        have pw := hsx.cell q4 (by simpa using hgwg)
        have ⟨l0, l1, l2⟩ := hlit
        go_wp2_with fail
        refine (hp4 _ (HLW.out.on Br)).mono ?_
        rintro e w3 ⟨rfl, hb3⟩
        have F3 := F.below hb3
        have F3' := F3
        obtain ⟨⟨g0, g1, g2, g3, g4⟩, z0, z1, z2, z3, z4⟩ := F3'
        clear f0 f1 f2 f3 f4 y0 y1 y2 y3 y4
        have HF := Lib.hid (F3.set2 (.int .i64 x4))
        have HSX := Lib.hid ((hsx.below hb3).setIn 2 (.int .i64 x4))
        have HLI := Lib.hid ((hlit.sx (SX.of_below hb3) (by simp)).sx (SX.set (w := w3) ⟨w1.heap.size, 2, none⟩ (.int .i64 x4)) (by simp; omega))
        have HB := Lib.hid (bs (p := ⟨w1.heap.size, 2, none⟩) (u := .int .i64 x4) (bt Br hb3) (Nat.le_of_lt hgw))
        go_wp2
        go_roundw
        case rel => exact ⟨1, 1, rfl, Lib.hid rfl, by omega, by first | exact HF.out | simpa [sel] using HF.out, HSX.out, HLI.out, HB.out⟩
        case measure => simp [intOf]
      · obtain rfl : ki = 1 := by have := HK.out; omega
        have Fk := F
        obtain ⟨⟨f0, f1, f2, f3, f4⟩, y0, y1, y2, y3, y4⟩ := Fk
        have pw := hsx.cell q6 (by simpa using hgwg)
        have ⟨l0, l1, l2⟩ := hlit
        go_wp2_with fail
        refine (hp6 _ (HLW.out.on Br)).mono ?_
        rintro e w3 ⟨rfl, hb3⟩
        have F3 := F.below hb3
        have F3' := F3
        obtain ⟨⟨g0, g1, g2, g3, g4⟩, z0, z1, z2, z3, z4⟩ := F3'
        clear f0 f1 f2 f3 f4 y0 y1 y2 y3 y4
        have HF := Lib.hid (F3.set3 (.int .i64 x6))
        have HSX := Lib.hid ((hsx.below hb3).setIn 3 (.int .i64 x6))
        have HLI := Lib.hid ((hlit.sx (SX.of_below hb3) (by simp)).sx (SX.set (w := w3) ⟨w1.heap.size, 3, none⟩ (.int .i64 x6)) (by simp; omega))
        have HB := Lib.hid (bs (p := ⟨w1.heap.size, 3, none⟩) (u := .int .i64 x6) (bt Br hb3) (Nat.le_of_lt hgw))
        go_wp2
        go_roundw
        case rel => exact ⟨2, 2, rfl, Lib.hid rfl, by omega, by first | exact HF.out | simpa [sel] using HF.out, HSX.out, HLI.out, HB.out⟩
        case measure => simp [intOf]
      · obtain rfl : ki = 2 := by have := HK.out; omega
        have Fk := F
        obtain ⟨⟨f0, f1, f2, f3, f4⟩, y0, y1, y2, y3, y4⟩ := Fk
        have pw := hsx.cell q8 (by simpa using hgwg)
        have ⟨l0, l1, l2⟩ := hlit
        go_wp2_with fail
        refine (hp8 _ (HLW.out.on Br)).mono ?_
        rintro e w3 ⟨rfl, hb3⟩
        have F3 := F.below hb3
        have F3' := F3
        obtain ⟨⟨g0, g1, g2, g3, g4⟩, z0, z1, z2, z3, z4⟩ := F3'
        clear f0 f1 f2 f3 f4 y0 y1 y2 y3 y4
        have HF := Lib.hid (F3.set4 (.int .i64 x8))
        have HSX := Lib.hid ((hsx.below hb3).setIn 4 (.int .i64 x8))
        have HLI := Lib.hid ((hlit.sx (SX.of_below hb3) (by simp)).sx (SX.set (w := w3) ⟨w1.heap.size, 4, none⟩ (.int .i64 x8)) (by simp; omega))
        have HB := Lib.hid (bs (p := ⟨w1.heap.size, 4, none⟩) (u := .int .i64 x8) (bt Br hb3) (Nat.le_of_lt hgw))
        go_wp2
        go_roundw
        case rel => exact ⟨3, 3, rfl, Lib.hid rfl, by omega, by first | exact HF.out | simpa [sel] using HF.out, HSX.out, HLI.out, HB.out⟩
        case measure => simp [intOf]
      · obtain rfl : ki = 3 := by have := HK.out; omega
        have F5 : Five wr w1.heap.size (.int .i64 r) (.slice none 0 0) (.int .i64 x4) (.int .i64 x6) (.int .i64 x8) := by simpa [sel] using F
        have H4r := Lib.hid ((H4z.out.below hba).sx hsx (by simp; omega))
        have hin := show ints wr (.slice none 0 0) [] _ from hina.frame fun j hj => hsx.2 j (hina.lt j hj) (by intro hm; rw [List.mem_singleton] at hm; subst hm; exact Hg.out hj)
        cases kr with
        | false =>
          have HN := Lib.hid (pm_noI (s := s) HW.out (.inl (HOK.out false rfl)))
          have H4e := H4r
          have H4y := H4e.out
          obtain ⟨⟨r0, r1, r2, r3, r4⟩, q0, q1, q2, q3, q4⟩ := H4y
          go_wp2
          (try simp only [Exit.inBlock, Exit.then])
          refine bodyPost_ret (v := .tuple #[.agg #[.int .i64 0, .slice none 0 0, .int .i64 0, .int .i64 0, .int .i64 0], .bool false]) ?_ rfl ?_
          · rw [results_cell_tmp rfl]
            simp [asAddr, Result.andThen, load_set5 H4e.out]
          · exact PmEnd.no rfl HN.out (below_set5 Br (Nat.le_refl _) _ _ _ _ _)
        | true =>
          have hmo := HMI
          cases hmb : methB s ⟨r, [], x4, x6, x8⟩ with
          | false =>
            have HN := Lib.hid (pm_noI HW.out (.inr (.inl (by rw [hmo.out]; exact hmb))))
            have F6 := F5
            obtain ⟨⟨f0, f1, f2, f3, f4⟩, y0, y1, y2, y3, y4⟩ := F6
            go_wp2_with fail
            refine (retBB (implIsMethod_any vs s fs ⟨r, [], x4, x6, x8⟩ _ _ _ (hs.below' Br) hin) hmb).mono ?_
            rintro e wy ⟨rfl, hby⟩
            clear hmb
            have H4e := Lib.hid (H4r.out.below hby)
            have H4y := H4e.out
            obtain ⟨⟨r0, r1, r2, r3, r4⟩, q0, q1, q2, q3, q4⟩ := H4y
            go_wp2
            (try simp only [Exit.inBlock, Exit.then])
            refine bodyPost_ret (v := .tuple #[.agg #[.int .i64 0, .slice none 0 0, .int .i64 0, .int .i64 0, .int .i64 0], .bool false]) ?_ rfl ?_
            · rw [results_cell_tmp rfl]
              simp [asAddr, Result.andThen, load_set5 H4e.out]
            · exact PmEnd.no rfl HN.out (below_set5 (bt Br hby) (Nat.le_refl _) _ _ _ _ _)
          | true =>
            have Hmb := Lib.hid hmb
            have F6 := F5
            obtain ⟨⟨f0, f1, f2, f3, f4⟩, y0, y1, y2, y3, y4⟩ := F6
            go_wp2_with fail
            refine (retBB (implIsMethod_any vs s fs ⟨r, [], x4, x6, x8⟩ _ _ _ (hs.below' Br) hin) hmb).mono ?_
            rintro e wy ⟨rfl, hby⟩
            clear hmb
            have Fy := F5.below hby
            have Fy2 := Fy
            obtain ⟨⟨k0, k1, k2, k3, k4⟩, m0, m1, m2, m3, m4⟩ := Fy2
            go_wp2_with fail
            refine (implFormatMethod_any ⟨r, [], x4, x6, x8⟩ _ _ _ (hin.below' hby) hlb ((HLW.out.on (bt Br hby)).2.2.1)).mono ?_
            rintro e we ⟨rfl, hbe⟩
            have hbye := bt hby hbe
            have H4e := Lib.hid (H4r.out.below hbye)
            by_cases heq : methFS ⟨r, [], x4, x6, x8⟩ = t.data.toList
            · have hse := str_eq heq
              have HY := Lib.hid (fs_yes HW.out H9.out heq)
              have Heq := Lib.hid heq
              clear heq
              rw [hse]
              clear hse
              have Fz := Fy.below hbe
              obtain ⟨⟨x0', x1', x2', x3', x4'⟩, z0, z1, z2, z3, z4⟩ := Fz
              have H4y := H4e.out
              obtain ⟨⟨r0, r1, r2, r3, r4⟩, q0, q1, q2, q3, q4⟩ := H4y
              go_wp2
              (try simp only [Exit.inBlock, Exit.then])
              refine bodyPost_ret (v := .tuple #[.agg #[.int .i64 r, (.slice none 0 0), .int .i64 x4, .int .i64 x6, .int .i64 x8], .bool true]) ?_ rfl ?_
              · rw [results_cell_tmp rfl]
                simp [asAddr, Result.andThen, load_set5 H4e.out]
              · exact PmEnd.yes ⟨r, [], x4, x6, x8⟩ _ _ rfl Hmb.out HY.out Heq.out (ints_set5 (hin.below' hbye) Hnot.out _ _ _ _ _) Hfr.out (below_set5 (bt Br hbye) (Nat.le_refl _) _ _ _ _ _)
            · have hse := str_ne heq
              have HN := Lib.hid (pm_noI (s := s) HW.out (.inr (.inr (by rw [hmo.out]; exact heq))))
              clear heq
              have H4y := H4e.out
              obtain ⟨⟨r0, r1, r2, r3, r4⟩, q0, q1, q2, q3, q4⟩ := H4y
              go_wp2
              (try simp only [Exit.inBlock, Exit.then])
              refine bodyPost_ret (v := .tuple #[.agg #[.int .i64 0, .slice none 0 0, .int .i64 0, .int .i64 0, .int .i64 0], .bool false]) ?_ rfl ?_
              · rw [results_cell_tmp rfl]
                simp [asAddr, Result.andThen, load_set5 H4e.out]
              · exact PmEnd.no rfl HN.out (below_set5 (bt Br hbye) (Nat.le_refl _) _ _ _ _ _)
  · have hfb : (a2 == [102, 114, 101, 101]) = false := by simp [hfree]
    have HI := Lib.hid (show inI a2 = valI (cutL 44 a2) by unfold inI; rw [if_neg hfree])
    have HOK0 := Lib.hid (show ∀ x, kr = x → okI [a0, a1, a2, a3, a4, a5, a6, a7, a8] = (allI (cutL 44 a2) && x) from fun x e => by rw [HO.out x e, decide_eq_false hfree]; rfl)
    clear hfree
    have Bz0 := bt B1 hba1
    have p2 := cell_below p2' hba1
    have Hl2 := Lib.hid (arr_sz a2 (Hpl.out _ (by simp)))
    have Ha2 := Lib.hid (Hpl9.out H9.out a2 (by simp))
    have HZ := Lib.hid hba1
    go_wp2_with fail
    refine (split1_any ⟨a2.toArray⟩ 44 _ Hl2.out (HLW.out.on Bz0).2.2.2).mono ?_
    rintro e w2 ⟨gp, cp, fp, rfl, hgp, hbp⟩
    obtain ⟨L, hL⟩ : ∃ L, cutL 44 a2 = L := ⟨_, rfl⟩
    have HLn := Lib.hid (show L.length ≤ 1048576 from by rw [← hL]; exact Nat.le_trans (cutL_len 44 a2) (by have := Ha2.out; omega))
    have HLp := Lib.hid (show ∀ p ∈ L, p.length ≤ 1048576 from fun p hp => Nat.le_trans (cutL_piece 44 _ p (by rw [hL]; exact hp)) (by have := Ha2.out; omega))
    have HI2 := Lib.hid (show inI a2 = valI L by rw [HI.out, hL])
    rw [show cutL 44 (⟨a2.toArray⟩ : ByteArray).data.toList = L from hL] at hgp
    rw [show cutL 44 (⟨a2.toArray⟩ : ByteArray).data.toList = L from hL]
    rw [hL] at HOK0
    clear hL HI
    have Bp := bt Bz0 hbp
    obtain ⟨ka, hka⟩ : ∃ ka, allI L = ka := ⟨_, rfl⟩
    have hq3 : ∀ v f, slR 9 1 strR w2 v L f → Calls Tryz.prog 96 #[v] w2 fun e w' => ∃ (v : Value) (f : List Nat), e = .returned (.tuple #[v, .bool ka]) ∧ ints w' v (if ka then valI L else []) f ∧ Fresh w2.heap.size f ∧ Below w2.heap.size w2 w' := fun v f h => by
      have h2 := readInts_any v L f w2 h (by have := HLn.out; omega) HLp.out (HLW.out.on Bp)
      unfold RdEnd at h2
      rw [hka] at h2
      exact h2
    have HOK1 := Lib.hid (show ∀ x, kr = x → okI [a0, a1, a2, a3, a4, a5, a6, a7, a8] = (ka && x) from fun x e => by rw [HOK0.out x e, hka])
    clear hka HOK0
    have hsl := hgp.sl
    go_wp2_with fail
    refine (hq3 _ _ hsl).mono ?_
    rintro e w3 ⟨vi, fi, rfl, hi, hfi, hb3⟩
    clear hq3 hsl
    have B3 := bt Bp hb3
    have hb13 := bt hbp hb3
    have h12 : w1.heap.size < w2.heap.size := Nat.lt_of_lt_of_le (by simp only [World.alloc, Array.size_push]; omega) hbp.size
    have F3 := F0.below hb13
    have F3' := F3
    obtain ⟨⟨f0, f1, f2, f3, f4⟩, y0, y1, y2, y3, y4⟩ := F3'
    have Hg := Lib.hid (show w1.heap.size ∉ fi from fun hm => by have := hfi.2 _ hm; omega)
    have H43 := Lib.hid ((h41.below HZ.out).below hb13)
    have hneg : w.heap.size ≠ w1.heap.size := by omega
    cases ka with
    | false =>
      have HN := Lib.hid (pm_noI (s := s) HW.out (.inl (show okI [a0, a1, a2, a3, a4, a5, a6, a7, a8] = false by rw [HOK1.out kr rfl]; rfl)))
      simp only [Bool.false_eq_true, if_false] at hi
      obtain ⟨av, cv, rfl⟩ : ∃ a c, vi = .slice a 0 c := slR.form hi
      have H4e := Lib.hid (H43.out.sx (SX.set (w := w3) ⟨w1.heap.size, 1, none⟩ (.slice av 0 cv)) (by simpa using hneg))
      have H4y := H43.out
      obtain ⟨⟨r0, r1, r2, r3, r4⟩, q0, q1, q2, q3, q4⟩ := H4y
      go_wp2
      (try simp only [Exit.inBlock, Exit.then])
      refine bodyPost_ret (v := .tuple #[.agg #[.int .i64 0, .slice none 0 0, .int .i64 0, .int .i64 0, .int .i64 0], .bool false]) ?_ rfl ?_
      · rw [results_cell_tmp rfl]
        simp [asAddr, Result.andThen, load_set5 H4e.out]
      · exact PmEnd.no rfl HN.out (below_set5 (bs (p := ⟨w1.heap.size, 1, none⟩) B3 (Nat.le_of_lt hgw)) (Nat.le_refl _) _ _ _ _ _)
    | true =>
      have HOK := Lib.hid (show ∀ x, kr = x → okI [a0, a1, a2, a3, a4, a5, a6, a7, a8] = x from fun x e => by rw [HOK1.out x e]; rfl)
      have HMI := Lib.hid (HR.out (valI L) HI2.out)
      rw [if_pos rfl] at hi
      obtain ⟨av, cv, rfl⟩ := slR.form hi
      have hlb : (valI L).length ≤ 1048576 := by have := HLn.out; unfold valI; rw [List.length_map]; omega
      have F : Five (w3.setCell ⟨w1.heap.size, 1, none⟩ (.slice av (valI L).length cv)) w1.heap.size (.int .i64 0) (.slice av (valI L).length cv) (.int .i64 0) (.int .i64 0) (.int .i64 0) := F3.set1 _
      have Bz : Below w.heap.size w (w3.setCell ⟨w1.heap.size, 1, none⟩ (.slice av (valI L).length cv)) := bs B3 (Nat.le_of_lt hgw)
      have S3 : SX [w1.heap.size] w3 (w3.setCell ⟨w1.heap.size, 1, none⟩ (.slice av (valI L).length cv)) := SX.set _ _
      have H4z := Lib.hid (H43.out.sx S3 (by simpa using hneg))
      have p0 := S3.cell (cell_below (cell_below p0' HZ.out) hb13) (by simpa using hgwg)
      have p4 := S3.cell (cell_below (cell_below p4' HZ.out) hb13) (by simpa using hgwg)
      have p6 := S3.cell (cell_below (cell_below p6' HZ.out) hb13) (by simpa using hgwg)
      have p8 := S3.cell (cell_below (cell_below p8' HZ.out) hb13) (by simpa using hgwg)
      have hin0 := hi.far (p := ⟨w1.heap.size, 1, none⟩) Hg.out (.slice av (valI L).length cv)
      have Hnot := Lib.hid (show w.heap.size ∉ fi from fun hm => by have := hfi.2 _ hm; omega)
      have Hfr := Lib.hid (hfi.mono Bp.size)
      clear hi hgp F0 p2 F3
      go_wp2_with fail
      refine (hqT _).mono ?_
      rintro e wt ⟨rfl, rfl⟩
      go_wp2_with fail
      refine (hp0 _ (HLW.out.on Bz)).mono ?_
      rintro e wa ⟨rfl, hba⟩
      have Ba := bt Bz hba
      have Fa := F.below hba
      have Fa2 := Fa
      obtain ⟨⟨f0, f1, f2, f3, f4⟩, y0, y1, y2, y3, y4⟩ := Fa2
      have q4 := cell_below p4 hba
      have q6 := cell_below p6 hba
      have q8 := cell_below p8 hba
      have hgwa : w1.heap.size < wa.heap.size := Fa.lt
      have hina := hin0.below' hba
      have HFl := Lib.hid (show Five ((wa.setCell ⟨w1.heap.size, 0, none⟩ (.int .i64 r)).alloc (.cells #[.pointer (some ⟨w1.heap.size, 2, none⟩), .pointer (some ⟨w1.heap.size, 3, none⟩), .pointer (some ⟨w1.heap.size, 4, none⟩)] 123)) w1.heap.size (.int .i64 r) (.slice av (valI L).length cv) (.int .i64 0) (.int .i64 0) (.int .i64 0) from (Fa.set0 (.int .i64 r)).below (ba (Below.refl _ _)))
      have HLl := Lib.hid (show Lit3 ((wa.setCell ⟨w1.heap.size, 0, none⟩ (.int .i64 r)).alloc (.cells #[.pointer (some ⟨w1.heap.size, 2, none⟩), .pointer (some ⟨w1.heap.size, 3, none⟩), .pointer (some ⟨w1.heap.size, 4, none⟩)] 123)) wa.heap.size w1.heap.size from by
        have hs : (wa.setCell ⟨w1.heap.size, 0, none⟩ (.int .i64 r)).heap.size = wa.heap.size := by simp [World.setCell]
        exact ⟨cell_at _ _ hs _ _ 0 _ rfl, cell_at _ _ hs _ _ 1 _ rfl, cell_at _ _ hs _ _ 2 _ rfl⟩)
      have HSl := Lib.hid (show SX [w1.heap.size] wa ((wa.setCell ⟨w1.heap.size, 0, none⟩ (.int .i64 r)).alloc (.cells #[.pointer (some ⟨w1.heap.size, 2, none⟩), .pointer (some ⟨w1.heap.size, 3, none⟩), .pointer (some ⟨w1.heap.size, 4, none⟩)] 123)) from (SX.set ⟨w1.heap.size, 0, none⟩ _).below (ba (Below.refl _ _)))
      have HBl := Lib.hid (show Below w.heap.size w ((wa.setCell ⟨w1.heap.size, 0, none⟩ (.int .i64 r)).alloc (.cells #[.pointer (some ⟨w1.heap.size, 2, none⟩), .pointer (some ⟨w1.heap.size, 3, none⟩), .pointer (some ⟨w1.heap.size, 4, none⟩)] 123)) from ba (bs Ba (Nat.le_of_lt hgw)))
      go_wp2
      go_loopw [50] (fun i wr => ∃ (k : Nat) (ki : Int), i = .int .i64 ki ∧ Hid (ki = (k : Int)) ∧ k ≤ 3 ∧ Five wr w1.heap.size (.int .i64 r) (.slice av (valI L).length cv) (.int .i64 (sel k 0 x4)) (.int .i64 (sel k 1 x6)) (.int .i64 (sel k 2 x8)) ∧ SX [w1.heap.size] wa wr ∧ Lit3 wr wa.heap.size w1.heap.size ∧ Below w.heap.size w wr) (fun i _ => 3 - (intOf i).toNat)
      case atStart => exact ⟨0, 0, rfl, Lib.hid rfl, by omega, by first | exact HFl.out | simpa [sel] using HFl.out, HSl.out, HLl.out, HBl.out⟩
      case round =>
        obtain ⟨k, ki, rfl, HK, hk, F, hsx, hlit, Br⟩ := hrel
        have hgl := hlit.lt
        rcases (show k = 0 ∨ k = 1 ∨ k = 2 ∨ k = 3 by omega) with rfl | rfl | rfl | rfl
        · obtain rfl : ki = 0 := by have := HK.out; omega
          have Fk := F
          obtain ⟨⟨f0, f1, f2, f3, f4⟩, y0, y1, y2, y3, y4⟩ := Fk
          have pw := hsx.cell q4 (by simpa using hgwg)
          have ⟨l0, l1, l2⟩ := hlit
          go_wp2_with fail
          refine (hp4 _ (HLW.out.on Br)).mono ?_
          rintro e w3 ⟨rfl, hb3⟩
          have F3 := F.below hb3
          have F3' := F3
          obtain ⟨⟨g0, g1, g2, g3, g4⟩, z0, z1, z2, z3, z4⟩ := F3'
          clear f0 f1 f2 f3 f4 y0 y1 y2 y3 y4
          have HF := Lib.hid (F3.set2 (.int .i64 x4))
          have HSX := Lib.hid ((hsx.below hb3).setIn 2 (.int .i64 x4))
          have HLI := Lib.hid ((hlit.sx (SX.of_below hb3) (by simp)).sx (SX.set (w := w3) ⟨w1.heap.size, 2, none⟩ (.int .i64 x4)) (by simp; omega))
          have HB := Lib.hid (bs (p := ⟨w1.heap.size, 2, none⟩) (u := .int .i64 x4) (bt Br hb3) (Nat.le_of_lt hgw))
          go_wp2
          go_roundw
          case rel => exact ⟨1, 1, rfl, Lib.hid rfl, by omega, by first | exact HF.out | simpa [sel] using HF.out, HSX.out, HLI.out, HB.out⟩
          case measure => simp [intOf]
        · obtain rfl : ki = 1 := by have := HK.out; omega
          have Fk := F
          obtain ⟨⟨f0, f1, f2, f3, f4⟩, y0, y1, y2, y3, y4⟩ := Fk
          have pw := hsx.cell q6 (by simpa using hgwg)
          have ⟨l0, l1, l2⟩ := hlit
          go_wp2_with fail
          refine (hp6 _ (HLW.out.on Br)).mono ?_
          rintro e w3 ⟨rfl, hb3⟩
          have F3 := F.below hb3
          have F3' := F3
          obtain ⟨⟨g0, g1, g2, g3, g4⟩, z0, z1, z2, z3, z4⟩ := F3'
          clear f0 f1 f2 f3 f4 y0 y1 y2 y3 y4
          have HF := Lib.hid (F3.set3 (.int .i64 x6))
          have HSX := Lib.hid ((hsx.below hb3).setIn 3 (.int .i64 x6))
          have HLI := Lib.hid ((hlit.sx (SX.of_below hb3) (by simp)).sx (SX.set (w := w3) ⟨w1.heap.size, 3, none⟩ (.int .i64 x6)) (by simp; omega))
          have HB := Lib.hid (bs (p := ⟨w1.heap.size, 3, none⟩) (u := .int .i64 x6) (bt Br hb3) (Nat.le_of_lt hgw))
          go_wp2
          go_roundw
          case rel => exact ⟨2, 2, rfl, Lib.hid rfl, by omega, by first | exact HF.out | simpa [sel] using HF.out, HSX.out, HLI.out, HB.out⟩
          case measure => simp [intOf]
        · obtain rfl : ki = 2 := by have := HK.out; omega
          have Fk := F
          obtain ⟨⟨f0, f1, f2, f3, f4⟩, y0, y1, y2, y3, y4⟩ := Fk
          have pw := hsx.cell q8 (by simpa using hgwg)
          have ⟨l0, l1, l2⟩ := hlit
          go_wp2_with fail
          refine (hp8 _ (HLW.out.on Br)).mono ?_
          rintro e w3 ⟨rfl, hb3⟩
          have F3 := F.below hb3
          have F3' := F3
          obtain ⟨⟨g0, g1, g2, g3, g4⟩, z0, z1, z2, z3, z4⟩ := F3'
          clear f0 f1 f2 f3 f4 y0 y1 y2 y3 y4
          have HF := Lib.hid (F3.set4 (.int .i64 x8))
          have HSX := Lib.hid ((hsx.below hb3).setIn 4 (.int .i64 x8))
          have HLI := Lib.hid ((hlit.sx (SX.of_below hb3) (by simp)).sx (SX.set (w := w3) ⟨w1.heap.size, 4, none⟩ (.int .i64 x8)) (by simp; omega))
          have HB := Lib.hid (bs (p := ⟨w1.heap.size, 4, none⟩) (u := .int .i64 x8) (bt Br hb3) (Nat.le_of_lt hgw))
          go_wp2
          go_roundw
          case rel => exact ⟨3, 3, rfl, Lib.hid rfl, by omega, by first | exact HF.out | simpa [sel] using HF.out, HSX.out, HLI.out, HB.out⟩
          case measure => simp [intOf]
        · obtain rfl : ki = 3 := by have := HK.out; omega
          have F5 : Five wr w1.heap.size (.int .i64 r) (.slice av (valI L).length cv) (.int .i64 x4) (.int .i64 x6) (.int .i64 x8) := by simpa [sel] using F
          have H4r := Lib.hid ((H4z.out.below hba).sx hsx (by simp; omega))
          have hin := show ints wr (.slice av (valI L).length cv) (valI L) _ from hina.frame fun j hj => hsx.2 j (hina.lt j hj) (by intro hm; rw [List.mem_singleton] at hm; subst hm; exact Hg.out hj)
          cases kr with
          | false =>
            have HN := Lib.hid (pm_noI (s := s) HW.out (.inl (HOK.out false rfl)))
            have H4e := H4r
            have H4y := H4e.out
            obtain ⟨⟨r0, r1, r2, r3, r4⟩, q0, q1, q2, q3, q4⟩ := H4y
            go_wp2
            (try simp only [Exit.inBlock, Exit.then])
            refine bodyPost_ret (v := .tuple #[.agg #[.int .i64 0, .slice none 0 0, .int .i64 0, .int .i64 0, .int .i64 0], .bool false]) ?_ rfl ?_
            · rw [results_cell_tmp rfl]
              simp [asAddr, Result.andThen, load_set5 H4e.out]
            · exact PmEnd.no rfl HN.out (below_set5 Br (Nat.le_refl _) _ _ _ _ _)
          | true =>
            have hmo := HMI
            cases hmb : methB s ⟨r, (valI L), x4, x6, x8⟩ with
            | false =>
              have HN := Lib.hid (pm_noI HW.out (.inr (.inl (by rw [hmo.out]; exact hmb))))
              have F6 := F5
              obtain ⟨⟨f0, f1, f2, f3, f4⟩, y0, y1, y2, y3, y4⟩ := F6
              go_wp2_with fail
              refine (retBB (implIsMethod_any vs s fs ⟨r, (valI L), x4, x6, x8⟩ _ _ _ (hs.below' Br) hin) hmb).mono ?_
              rintro e wy ⟨rfl, hby⟩
              clear hmb
              have H4e := Lib.hid (H4r.out.below hby)
              have H4y := H4e.out
              obtain ⟨⟨r0, r1, r2, r3, r4⟩, q0, q1, q2, q3, q4⟩ := H4y
              go_wp2
              (try simp only [Exit.inBlock, Exit.then])
              refine bodyPost_ret (v := .tuple #[.agg #[.int .i64 0, .slice none 0 0, .int .i64 0, .int .i64 0, .int .i64 0], .bool false]) ?_ rfl ?_
              · rw [results_cell_tmp rfl]
                simp [asAddr, Result.andThen, load_set5 H4e.out]
              · exact PmEnd.no rfl HN.out (below_set5 (bt Br hby) (Nat.le_refl _) _ _ _ _ _)
            | true =>
              have Hmb := Lib.hid hmb
              have F6 := F5
              obtain ⟨⟨f0, f1, f2, f3, f4⟩, y0, y1, y2, y3, y4⟩ := F6
              go_wp2_with fail
              refine (retBB (implIsMethod_any vs s fs ⟨r, (valI L), x4, x6, x8⟩ _ _ _ (hs.below' Br) hin) hmb).mono ?_
              rintro e wy ⟨rfl, hby⟩
              clear hmb
              have Fy := F5.below hby
              have Fy2 := Fy
              obtain ⟨⟨k0, k1, k2, k3, k4⟩, m0, m1, m2, m3, m4⟩ := Fy2
              go_wp2_with fail
              refine (implFormatMethod_any ⟨r, (valI L), x4, x6, x8⟩ _ _ _ (hin.below' hby) hlb ((HLW.out.on (bt Br hby)).2.2.1)).mono ?_
              rintro e we ⟨rfl, hbe⟩
              have hbye := bt hby hbe
              have H4e := Lib.hid (H4r.out.below hbye)
              by_cases heq : methFS ⟨r, (valI L), x4, x6, x8⟩ = t.data.toList
              · have hse := str_eq heq
                have HY := Lib.hid (fs_yes HW.out H9.out heq)
                have Heq := Lib.hid heq
                clear heq
                rw [hse]
                clear hse
                have Fz := Fy.below hbe
                obtain ⟨⟨x0', x1', x2', x3', x4'⟩, z0, z1, z2, z3, z4⟩ := Fz
                have H4y := H4e.out
                obtain ⟨⟨r0, r1, r2, r3, r4⟩, q0, q1, q2, q3, q4⟩ := H4y
                go_wp2
                (try simp only [Exit.inBlock, Exit.then])
                refine bodyPost_ret (v := .tuple #[.agg #[.int .i64 r, (.slice av (valI L).length cv), .int .i64 x4, .int .i64 x6, .int .i64 x8], .bool true]) ?_ rfl ?_
                · rw [results_cell_tmp rfl]
                  simp [asAddr, Result.andThen, load_set5 H4e.out]
                · exact PmEnd.yes ⟨r, (valI L), x4, x6, x8⟩ _ _ rfl Hmb.out HY.out Heq.out (ints_set5 (hin.below' hbye) Hnot.out _ _ _ _ _) Hfr.out (below_set5 (bt Br hbye) (Nat.le_refl _) _ _ _ _ _)
              · have hse := str_ne heq
                have HN := Lib.hid (pm_noI (s := s) HW.out (.inr (.inr (by rw [hmo.out]; exact heq))))
                clear heq
                have H4y := H4e.out
                obtain ⟨⟨r0, r1, r2, r3, r4⟩, q0, q1, q2, q3, q4⟩ := H4y
                go_wp2
                (try simp only [Exit.inBlock, Exit.then])
                refine bodyPost_ret (v := .tuple #[.agg #[.int .i64 0, .slice none 0 0, .int .i64 0, .int .i64 0, .int .i64 0], .bool false]) ?_ rfl ?_
                · rw [results_cell_tmp rfl]
                  simp [asAddr, Result.andThen, load_set5 H4e.out]
                · exact PmEnd.no rfl HN.out (below_set5 (bt Br hbye) (Nat.le_refl _) _ _ _ _ _)
end Go.Proofs.YtpdmdfkcaabnaaaGreatDoor
