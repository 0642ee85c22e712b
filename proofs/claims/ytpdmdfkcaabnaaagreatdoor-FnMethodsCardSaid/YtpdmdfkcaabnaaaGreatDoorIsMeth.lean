/- IsMethod and AreMethods, of the program and of the reference. No condition. -/
import Derived.Test.YtpdmdfkcaabnaaaGreatDoorMeth
import Derived.IntWalk
namespace Go.Proofs.YtpdmdfkcaabnaaaGreatDoor
open Go.RowKit
set_option linter.unusedVariables false
set_option linter.unusedSimpArgs false
theorem qEqM {P : Program} {f : FuncId} {args : Array Value} {w : World} {n x : Nat} {v : Value} (h : Calls P f args (w.drewN (n + x)) fun e w' => e = .returned v ∧ w.drewN (n + x) = w') :
    Calls P f args (w.drewN (n + x)) fun e w'' => e = .returned v ∧ ∃ m, w'' = w.drewN (n + m) := h.mono fun _ _ ⟨he, hm⟩ => ⟨he, x, hm.symm⟩
theorem schema_arity {s : List Int} (h : schemaB s = true) {k : Nat} (hk : k < s.length) : 1 ≤ s[k] ∧ s[k] ≤ 3 := by
  unfold schemaB at h
  simp only [Bool.and_eq_true, Bool.not_eq_true'] at h
  have h2 := List.any_eq_false.1 h.2 s[k] (List.getElem_mem hk)
  simp at h2
  exact inR_true h2
theorem inputBad_zero {m : MethD} {a : Int} (h : 0 < m.inputs.length) : inputBad m a 0 = !inR m.inputs[0] 0 (a - 1) := by
  unfold inputBad; rw [getD_lt h, ascBad_zero]; simp
theorem inputBad_succ {m : MethD} {a : Int} {j : Nat} (h : j + 1 < m.inputs.length) : inputBad m a (j + 1) = (!inR m.inputs[j + 1] 0 (a - 1) || decide (m.inputs[j + 1] ≤ m.inputs[j])) := by
  unfold inputBad; rw [getD_lt h, ascBad_succ h]
theorem methB_eq {s : List Int} {m : MethD} {r : Nat} (hs : schemaB s = true) (hin : inR (r : Int) 0 ((s.length : Int) - 1) = true) (hr : r < s.length) (hm : m.rel = r) : methB s m = fitsB m s[r] := by
  unfold methB hasRelB; rw [hm, hs, hin, arity_nat hr]; rfl
theorem methB_no {s : List Int} {m : MethD} (h : hasRelB s m.rel = false) : methB s m = false := by unfold methB; rw [h]; rfl
set_option maxRecDepth 100000 in
set_option maxHeartbeats 1600000 in
theorem implIsMethod_any (sv : Value) (s : List Int) (fs : List Nat) (m : MethD) (vi : Value) (fi : List Nat) (w : World) (hs : ints w sv s fs) (hi : ints w vi m.inputs fi) :
    Calls Tryz.prog 26 #[sv, .agg #[.int .i64 m.rel, vi, .int .i64 m.limit, .int .i64 m.cost, .int .i64 m.quota]] w fun e w' => e = .returned (.bool (methB s m)) ∧ Below w.heap.size w w' := by
  obtain ⟨rel, inputs, limit, cost, quota⟩ := m
  obtain ⟨a, cap, rfl⟩ := slR.form hs
  obtain ⟨p, cap2, rfl⟩ := slR.form hi
  have hla := slR.le_max hs
  have hs' := fun o => hs.al o
  have hi' := fun o => hi.al o
  cases hr : hasRelB s rel with
  | false =>
    have Hf := Lib.hid (methB_no (s := s) (m := ⟨rel, inputs, limit, cost, quota⟩) hr)
    go_enter Tryz.func26, Tryz.ntmps26
    go_wp2
    go_quiet ((go_at_call 104; exact qEq (retB (hasRel_any _ s fs _ _ ((hs' _).dn _)) hr)))
    go_wp2
    go_ret
    exact ⟨ret_bool (by rw [Hf.out]), by repeat (first | exact Below.refl _ _ | refine bdn ?_ | refine ba ?_)⟩
  | true =>
    obtain ⟨hsc, hin, r, rfl, hk⟩ := hasRel_nat hr
    obtain ⟨g, hga, hc, _, _, _⟩ := hs.get r hk
    have hk0 : (0 : Int) ≤ (r : Int) := Int.natCast_nonneg _
    have hk1 : (r : Int) < (s.length : Int) := by omega
    have har := schema_arity hsc hk
    have Hf := Lib.hid (methB_eq (m := ⟨r, inputs, limit, cost, quota⟩) hsc hin hk rfl)
    have hq1 := fun W h => (hasRel_any (.slice a s.length cap) s fs (r : Int) W h).mono fun _ _ h => (⟨h.1.trans (by rw [hr]), h.2.symm⟩ : _ = Ending.returned (.bool true) ∧ _)
    have Hr := Lib.hid hr
    clear hr hsc hin
    subst hga
    have hca := cell_al hc (.cells #[.int .i64 (r : Int), .slice p inputs.length cap2, .int .i64 limit, .int .i64 cost, .int .i64 quota] 38)
    go_enter Tryz.func26, Tryz.ntmps26
    go_wp2
    have Hla := Lib.hid hla; clear hla
    refine wp_region_still_tail 11 (by kernel_rfl) (by kernel_rfl) ?_
    change wpStill _ _ (World.drew _) _ _ _
    simp only [List.take_succ_cons, List.take_zero, List.drop_succ_cons, List.drop_zero]
    iterate 3 still_step
    still_call (hq1 _ ((hs' _).frame fun _ _ => rfl))
    iterate 7 still_step
    refine wpStill_nil ?_
    have hla := Hla.out
    change wpList _ _ _ _ _ (World.drew _)
    go_wp2_with fail
    refine (fits_any ⟨r, inputs, limit, cost, quota⟩ _ fi s[r] _ (ints.below' (hi' _) (Below.drew (Below.refl _ _))) (by omega)).mono ?_
    rintro e w1 ⟨rfl, hb1⟩
    go_wp2
    go_ret
    exact ⟨ret_bool (by rw [Hf.out]), bt (bdr (ba (Below.refl _ _))) hb1⟩
set_option maxRecDepth 100000 in
set_option maxHeartbeats 3200000 in
theorem specIsMethod_any (sv : Value) (s : List Int) (fs : List Nat) (m : MethD) (vi : Value) (fi : List Nat) (w : World) (hs : ints w sv s fs) (hi : ints w vi m.inputs fi) :
    Calls Tryz.prog 25 #[sv, .agg #[.int .i64 m.rel, vi, .int .i64 m.limit, .int .i64 m.cost, .int .i64 m.quota]] w fun e w' => e = .returned (.bool (methB s m)) ∧ Below w.heap.size w w' := by
  obtain ⟨rel, inputs, limit, cost, quota⟩ := m
  obtain ⟨a, cap, rfl⟩ := slR.form hs
  obtain ⟨p, cap2, rfl⟩ := slR.form hi
  have hla := slR.le_max hs
  have hlb := slR.le_max hi
  have hs' := fun o => hs.al o
  cases hsc : schemaB s with
  | false =>
    have Hf := Lib.hid (methB_no (s := s) (m := ⟨rel, inputs, limit, cost, quota⟩) (show hasRelB s rel = false by unfold hasRelB; rw [hsc]; rfl))
    go_enter Tryz.func25, Tryz.ntmps25
    go_wp2_with (go_at_call 78; refine (specIsSchema_any _ s fs _ (hs' _)).mono ?_; rintro e w' ⟨rfl, rfl⟩)
    go_ret
    exact ⟨ret_bool (by rw [Hf.out]), ba (Below.refl _ _)⟩
  | true =>
    cases hin : inR rel 0 ((s.length : Int) - 1) with
    | false =>
      have Hf := Lib.hid (methB_no (s := s) (m := ⟨rel, inputs, limit, cost, quota⟩) (show hasRelB s rel = false by unfold hasRelB; rw [hsc, hin]; rfl))
      go_enter Tryz.func25, Tryz.ntmps25
      go_wp2_with (first
        | (go_at_call 78; refine (specIsSchema_any _ s fs _ (hs' _)).mono ?_; rintro e w' ⟨rfl, rfl⟩)
        | (go_at_call 86; refine (f86_any _ _ _ _).mono ?_; rintro e w' ⟨rfl, rfl⟩))
      go_ret
      exact ⟨ret_bool (by rw [Hf.out]), ba (Below.refl _ _)⟩
    | true =>
      obtain ⟨r, rfl, hk⟩ := in_nat hin
      have hk0 : (0 : Int) ≤ (r : Int) := Int.natCast_nonneg _
      have hk1 : (r : Int) < (s.length : Int) := by omega
      have har := schema_arity hsc hk
      obtain ⟨har1, har2⟩ := har
      have hws : IntKind.i64.wrap (s[r] - 1) = s[r] - 1 := IntWalk.i64_in _ (by omega)
      have Hf0 := Lib.hid ((methB_eq (m := ⟨r, inputs, limit, cost, quota⟩) hsc hin hk rfl).trans (fitsB_eq _ _))
      cases hnum : numsB ⟨r, inputs, limit, cost, quota⟩ with
      | false =>
        have Hf := Lib.hid (Hf0.out.trans (by rw [hnum] <;> rfl))
        unfold numsB at hnum
        simp only at hnum
        cases h3 : inR limit 0 9 <;> cases h4 : inR cost 0 99 <;> cases h5 : inR quota 1 99 <;> (try (rw [h3, h4, h5] at hnum; cases hnum; done)) <;> clear hnum <;>
        · go_enter Tryz.func25, Tryz.ntmps25
          go_wp2_with (first
            | (go_at_call 78; refine (specIsSchema_any _ s fs _ (hs' _)).mono ?_; rintro e w' ⟨rfl, rfl⟩)
            | (go_at_call 86; refine (f86_any _ _ _ _).mono ?_; rintro e w' ⟨rfl, rfl⟩))
          go_ret
          exact ⟨ret_bool (by rw [Hf.out] <;> rfl), ba (Below.refl _ _)⟩
      | true =>
        have Hf := Lib.hid (Hf0.out.trans (show _ = !anyN inputs.length (inputBad ⟨r, inputs, limit, cost, quota⟩ s[r]) by rw [hnum] <;> rfl))
        unfold numsB at hnum
        simp only [Bool.and_eq_true] at hnum
        obtain ⟨⟨h3, h4⟩, h5⟩ := hnum
        go_enter Tryz.func25, Tryz.ntmps25
        go_wp2_with (first
          | (go_at_call 78; refine (specIsSchema_any _ s fs _ (hs' _)).mono ?_; rintro e w' ⟨rfl, rfl⟩)
          | (go_at_call 86; refine (f86_any _ _ _ _).mono ?_; rintro e w' ⟨rfl, rfl⟩))
        go_loopw [5] (fun i wr => ∃ k n : Nat, i = .int .i64 k ∧ k ≤ inputs.length ∧ Hid (∀ j, j < k → inputBad ⟨r, inputs, limit, cost, quota⟩ s[r] j = false) ∧
          wr = (w.alloc (.cells #[.int .i64 (r : Int), .slice p inputs.length cap2, .int .i64 limit, .int .i64 cost, .int .i64 quota] 38)).drewN n) (fun i _ => inputs.length - (intOf i).toNat)
        case atStart => exact ⟨0, 0, rfl, Nat.zero_le _, Lib.hid (fun j h0 => by omega), rfl⟩
        case round =>
          obtain ⟨k, n, rfl, hkk, HN, rfl⟩ := hrel
          have hi' := (hi.al (.cells #[.int .i64 (r : Int), .slice p inputs.length cap2, .int .i64 limit, .int .i64 cost, .int .i64 quota] 38))
          have hs'' := (hs.al (.cells #[.int .i64 (r : Int), .slice p inputs.length cap2, .int .i64 limit, .int .i64 cost, .int .i64 quota] 38))
          obtain ⟨gs, hgs, hcs, _, _, _⟩ := hs''.get r hk
          by_cases hlt : k < inputs.length
          · obtain ⟨g, hga, hc, _, _, _⟩ := hi'.get k hlt
            have hkl : (k : Int) < (inputs.length : Int) := by omega
            clear hi' hs''
            cases hb : inR inputs[k] 0 (s[r] - 1) with
            | false =>
              have Hg := Lib.hid (Hf.out.trans (show (!anyN inputs.length (inputBad ⟨r, inputs, limit, cost, quota⟩ s[r])) = false by
                rw [anyN_true hlt (by unfold inputBad; simp only [getD_lt hlt, hb]; rfl)]; rfl))
              subst hga hgs
              go_wp2
              go_quiet ((go_at_call 86; exact qEqM (retB (f86_any _ _ _ _) hb)))
              go_wp2
              go_ret
              exact ⟨ret_bool (by rw [Hg.out]), by repeat (first | exact Below.refl _ _ | refine bdn ?_ | refine ba ?_)⟩
            | true =>
              cases k with
              | zero =>
                have HN2 := Lib.hid (anyN_step HN.out ((inputBad_zero (m := ⟨r, inputs, limit, cost, quota⟩) hlt).trans (by rw [hb] <;> rfl)))
                subst hga hgs
                go_wp2
                go_quiet ((go_at_call 86; exact qEqM (retB (f86_any _ _ _ _) hb)))
                go_wp2
                go_roundw
                case rel => exact ⟨1, _, by go_num, by omega, HN2, rfl⟩
                case measure => simp [intOf]; omega
              | succ j =>
                obtain ⟨g2, hga2, hc2, _, _, _⟩ := ((hi.al (.cells #[.int .i64 (r : Int), .slice p inputs.length cap2, .int .i64 limit, .int .i64 cost, .int .i64 quota] 38))).get j (by omega)
                subst hga hgs
                cases hga2
                have hjl : (j : Int) < (inputs.length : Int) := by omega
                cases hp : decide (inputs[j + 1] ≤ inputs[j]) with
                | true =>
                  have Hg := Lib.hid (Hf.out.trans (show (!anyN inputs.length (inputBad ⟨r, inputs, limit, cost, quota⟩ s[r])) = false by
                    rw [anyN_true hlt ((inputBad_succ (m := ⟨r, inputs, limit, cost, quota⟩) hlt).trans (by rw [hp]; simp))]; rfl))
                  go_wp2
                  go_quiet ((go_at_call 86; exact qEqM (retB (f86_any _ _ _ _) hb)))
                  go_wp2
                  go_ret
                  exact ⟨ret_bool (by rw [Hg.out]), by repeat (first | exact Below.refl _ _ | refine bdn ?_ | refine ba ?_)⟩
                | false =>
                  have HN2 := Lib.hid (anyN_step HN.out ((inputBad_succ (m := ⟨r, inputs, limit, cost, quota⟩) hlt).trans (by rw [hb, hp] <;> rfl)))
                  go_wp2
                  go_quiet ((go_at_call 86; exact qEqM (retB (f86_any _ _ _ _) hb)))
                  go_wp2
                  go_roundw
                  case rel => exact ⟨j + 1 + 1, _, by go_num, by omega, HN2, rfl⟩
                  case measure => simp [intOf]; omega
          · have hkl : k = inputs.length := by omega
            have Hg := Lib.hid (Hf.out.trans (show (!anyN inputs.length (inputBad ⟨r, inputs, limit, cost, quota⟩ s[r])) = true by rw [anyN_false (fun j hj => HN.out j (by omega))]; rfl))
            clear hi' hs''
            go_wp2
            go_ret
            exact ⟨ret_bool (by rw [Hg.out]), by repeat (first | exact Below.refl _ _ | refine bdn ?_ | refine ba ?_)⟩
theorem areMethods1_any (s : List Int) (m : MethD) (sv vi : Value) (fs fi : List Nat) (g : Nat) (w : World) (hs : ints w sv s fs) (hi : ints w vi m.inputs fi) (c0 : w.cell? ⟨g, 0, none⟩ = some sv) :
    Calls Tryz.prog 106 #[.agg #[.int .i64 m.rel, vi, .int .i64 m.limit, .int .i64 m.cost, .int .i64 m.quota], .pointer (some ⟨g, 0, none⟩)] w fun e w' => e = .returned (.bool (!methB s m)) ∧ Below w.heap.size w w' := by
  obtain ⟨a, cap, rfl⟩ := slR.form hs
  obtain ⟨p, cap2, rfl⟩ := slR.form hi
  have d0 := fun o => cell_al c0 o
  have hf := lt_of_cell c0
  go_enter Tryz.func106, Tryz.ntmps106
  go_wp2_with fail
  refine (implIsMethod_any _ s fs m _ fi _ (hs.al _) (hi.al _)).mono ?_
  rintro e w1 ⟨rfl, hb1⟩
  go_wp2
  go_ret
  exact ⟨rfl, bt (ba (Below.refl _ _)) hb1⟩
set_option maxRecDepth 100000 in
set_option maxHeartbeats 800000 in
theorem implAreMethods_any (sv : Value) (s : List Int) (fs : List Nat) (v : Value) (l : List MethD) (f : List Nat) (w : World) (hs : ints w sv s fs) (h : meths w v l f) :
    Calls Tryz.prog 28 #[sv, v] w fun e w' => e = .returned (.bool (methsB s l)) ∧ Below w.heap.size w w' := by
  obtain ⟨a, cap, rfl⟩ := slR.form hs
  obtain ⟨b, cap', rfl⟩ := slR.form h
  have hP := plain_of Tryz.func106 (by kernel_rfl) (by kernel_rfl)
  have Hd := Lib.hid (show methsB s l = (schemaB s && decide (l.length ≤ 5) && !(l.any fun m => !methB s m)) from rfl)
  have hs' := fun o => hs.al o
  cases hsc : schemaB s with
  | false =>
    have Hf := Lib.hid (show methsB s l = false by rw [Hd.out, hsc]; rfl)
    go_enter Tryz.func28, Tryz.ntmps28
    go_wp2_with (go_at_call 77; refine (implIsSchema_any _ s fs _ (hs' _)).mono ?_; rintro e w' ⟨rfl, rfl⟩)
    go_ret
    exact ⟨ret_bool (by rw [Hf.out]), ba (Below.refl _ _)⟩
  | true =>
    by_cases hlen : l.length ≤ 5
    · have Hf := Lib.hid (show methsB s l = !(l.any fun m => !methB s m) by rw [Hd.out, hsc, decide_eq_true hlen]; rfl)
      have hlen2 : (l.length : Int) ≤ 5 := by omega
      go_enter Tryz.func28, Tryz.ntmps28
      go_wp2_with (go_at_call 77; refine (implIsSchema_any _ s fs _ (hs' _)).mono ?_; rintro e w' ⟨rfl, rfl⟩)
      refine (containsFuncMethod_any _ hP #[.pointer (some ⟨w.heap.size, 0, none⟩)] (fun m vi => #[.agg #[.int .i64 m.rel, vi, .int .i64 m.limit, .int .i64 m.cost, .int .i64 m.quota], .pointer (some ⟨w.heap.size, 0, none⟩)]) (fun _ _ => rfl) (fun m => !methB s m) _ l f _ (h.al _)
        (fun i hi w' vi fi hb hvi => areMethods1_any s _ _ _ fs _ _ _ ((hs' _).below' hb) hvi (cell_below (cell_new _ _ _ 0 _ rfl) hb))).mono ?_
      rintro e w1 ⟨rfl, hb1⟩
      go_wp2
      go_ret
      exact ⟨ret_bool (by rw [Hf.out]), bt (ba (Below.refl _ _)) hb1⟩
    · have Hf := Lib.hid (show methsB s l = false by rw [Hd.out, hsc, decide_eq_false hlen]; rfl)
      have hlen2 : ¬ (l.length : Int) ≤ 5 := by omega
      go_enter Tryz.func28, Tryz.ntmps28
      go_wp2_with (go_at_call 77; refine (implIsSchema_any _ s fs _ (hs' _)).mono ?_; rintro e w' ⟨rfl, rfl⟩)
      go_ret
      exact ⟨ret_bool (by rw [Hf.out]), ba (Below.refl _ _)⟩
set_option maxRecDepth 100000 in
set_option maxHeartbeats 1600000 in
theorem specAreMethods_any (sv : Value) (s : List Int) (fs : List Nat) (v : Value) (l : List MethD) (f : List Nat) (w : World) (hs : ints w sv s fs) (h : meths w v l f) :
    Calls Tryz.prog 29 #[sv, v] w fun e w' => e = .returned (.bool (methsB s l)) ∧ Below w.heap.size w w' := by
  obtain ⟨a, cap, rfl⟩ := slR.form hs
  obtain ⟨b, cap', rfl⟩ := slR.form h
  have hla := slR.le_max h
  have Hd := Lib.hid (show methsB s l = (schemaB s && decide (l.length ≤ 5) && !(l.any fun m => !methB s m)) from rfl)
  go_enter Tryz.func29, Tryz.ntmps29
  go_wp2
  go_loopw [5] (fun i wr => ∃ k : Nat, i = .int .i64 k ∧ k ≤ l.length ∧ Hid (∀ j (hj : j < l.length), j < k → (!methB s l[j]) = false) ∧ Below w.heap.size w wr) (fun i _ => l.length - (intOf i).toNat)
  case atStart => exact ⟨0, rfl, Nat.zero_le _, Lib.hid (fun j hj h0 => by omega), Below.refl _ _⟩
  case round =>
    obtain ⟨k, rfl, hk, HN, hbel⟩ := hrel
    by_cases hlt : k < l.length
    · obtain ⟨g, vi, fi, rfl, hc0, hc1, hc2, hc3, hc4, hv⟩ := (h.below' hbel).get k hlt
      obtain ⟨p, cap2, rfl⟩ := slR.form hv
      cases hp : methB s l[k] with
      | false =>
        have Hf := Lib.hid (show methsB s l = false by rw [Hd.out, any_true_of (p := fun m => !methB s m) hlt (by simp [hp])]; simp)
        go_wp2_with fail
        refine (specIsMethod_any _ s fs l[k] _ fi _ (hs.below' hbel) hv).mono ?_
        rintro e w1 ⟨rfl, hb1⟩
        go_wp2
        go_ret
        exact ⟨ret_bool (by rw [Hf.out]), bt hbel hb1⟩
      | true =>
        have HN2 := Lib.hid (none_step (p := fun m => !methB s m) HN.out hlt (by simp [hp]))
        go_wp2_with fail
        refine (specIsMethod_any _ s fs l[k] _ fi _ (hs.below' hbel) hv).mono ?_
        rintro e w1 ⟨rfl, hb1⟩
        have hb2 := bt hbel hb1
        go_wp2
        go_roundw
        case rel => exact ⟨k + 1, by go_num, by omega, HN2, hb2⟩
        case measure => simp [intOf]; omega
    · have hkl : k = l.length := by omega
      have Hn := Lib.hid (any_false_of (p := fun m => !methB s m) (l := l) (fun j hj => HN.out j hj (by omega)))
      cases hsc : schemaB s with
      | false =>
        have Hf := Lib.hid (show methsB s l = false by rw [Hd.out, hsc]; rfl)
        go_wp2_with (go_at_call 78; refine (specIsSchema_any _ s fs _ (hs.below' hbel)).mono ?_; rintro e w' ⟨rfl, rfl⟩)
        go_ret
        exact ⟨ret_bool (by rw [Hf.out]), hbel⟩
      | true =>
        have Hf := Lib.hid (show methsB s l = decide ((l.length : Int) ≤ 5) by rw [Hd.out, hsc, Hn.out]; simp; omega)
        go_wp2_with (go_at_call 78; refine (specIsSchema_any _ s fs _ (hs.below' hbel)).mono ?_; rintro e w' ⟨rfl, rfl⟩)
        go_ret
        exact ⟨ret_bool (by rw [Hf.out]), hbel⟩
end Go.Proofs.YtpdmdfkcaabnaaaGreatDoor
