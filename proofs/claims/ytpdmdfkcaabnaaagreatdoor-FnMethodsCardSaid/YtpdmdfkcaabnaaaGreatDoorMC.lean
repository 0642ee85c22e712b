/- Several of my texts as one: IsFact, Lat, FmtRec, HFact, HMeth, HAcc, HAtom, HStep, HIntSS. -/
import Derived.Test.YtpdmdfkcaabnaaaGreatDoorMA
import Derived.IntWalk
import Derived.Test.YtpdmdfkcaabnaaaGreatDoorMB
import Derived.Deep.QuietTactic
import Derived.BigQuiet
import Derived.StillTailTactics
/- IsFact and IsAtom, of the program and of the reference, and what they call. No condition. -/
namespace Go.Proofs.YtpdmdfkcaabnaaaGreatDoor
open Go.RowKit
set_option linter.unusedVariables false
set_option linter.unusedSimpArgs false
theorem retB {P : Program} {f : FuncId} {args : Array Value} {w : World} {b c : Bool} (h : Calls P f args w fun e w' => e = .returned (.bool b) ∧ w = w') (hb : b = c) : Calls P f args w fun e w' => e = .returned (.bool c) ∧ w = w' := hb ▸ h
theorem hasRel_nat {s : List Int} {r : Int} (h : hasRelB s r = true) : schemaB s = true ∧ inR r 0 ((s.length : Int) - 1) = true ∧ ∃ k : Nat, r = k ∧ k < s.length := by
  unfold hasRelB at h
  rw [Bool.and_eq_true] at h
  have h2 := inR_true h.2
  obtain ⟨k, rfl⟩ := Int.eq_ofNat_of_zero_le h2.1
  exact ⟨h.1, h.2, k, rfl, by omega⟩
theorem arity_nat {s : List Int} {k : Nat} (h : k < s.length) : arity s (k : Int) = s[k] := by
  unfold arity; rw [Int.toNat_natCast, getD_lt h]
theorem areValues1_any (x : Int) (w : World) :
    Calls Tryz.prog 170 #[.int .i64 x] w fun e w' => e = .returned (.bool (!isVal x)) ∧ w = w' := by
  go_enter Tryz.func170, Tryz.ntmps170
  go_wp2_with (go_at_call 126; refine (f126_any _ _).mono ?_; rintro e w' ⟨rfl, rfl⟩)
  go_ret
  exact ⟨rfl, rfl⟩
theorem areValues_any (v : Value) (l : List Int) (f : List Nat) (w : World) (h : ints w v l f) :
    Calls Tryz.prog 108 #[v] w fun e w' => e = .returned (.bool (!(l.any fun n => !isVal n))) ∧ w = w' := by
  obtain ⟨a, cap, rfl⟩ := slR.form h
  have hP := plain_of Tryz.func170 (by kernel_rfl) (by kernel_rfl)
  go_enter Tryz.func108, Tryz.ntmps108
  go_wp2_with fail
  refine (containsFuncIntQ_any _ hP #[] (fun x => #[.int .i64 x]) (fun _ => rfl) (fun n => !isVal n) _ l f _ h (fun i hi => areValues1_any _ _)).mono ?_
  rintro e w1 ⟨rfl, rfl⟩
  go_wp2
  go_ret
  exact ⟨rfl, rfl⟩
theorem areTerms1_any (x : Int) (w : World) :
    Calls Tryz.prog 191 #[.int .i64 x] w fun e w' => e = .returned (.bool (!isTermB x)) ∧ w = w' := by
  go_enter Tryz.func191, Tryz.ntmps191
  go_wp2_with (go_at_call 47; refine (f47_any _ _).mono ?_; rintro e w' ⟨rfl, rfl⟩)
  go_ret
  exact ⟨rfl, rfl⟩
theorem areTerms_any (v : Value) (l : List Int) (f : List Nat) (w : World) (h : ints w v l f) :
    Calls Tryz.prog 134 #[v] w fun e w' => e = .returned (.bool (!(l.any fun n => !isTermB n))) ∧ w = w' := by
  obtain ⟨a, cap, rfl⟩ := slR.form h
  have hP := plain_of Tryz.func191 (by kernel_rfl) (by kernel_rfl)
  go_enter Tryz.func134, Tryz.ntmps134
  go_wp2_with fail
  refine (containsFuncIntQ_any _ hP #[] (fun x => #[.int .i64 x]) (fun _ => rfl) (fun n => !isTermB n) _ l f _ h (fun i hi => areTerms1_any _ _)).mono ?_
  rintro e w1 ⟨rfl, rfl⟩
  go_wp2
  go_ret
  exact ⟨rfl, rfl⟩
theorem hasRel_any (v : Value) (s : List Int) (f : List Nat) (r : Int) (w : World) (h : ints w v s f) :
    Calls Tryz.prog 104 #[v, .int .i64 r] w fun e w' => e = .returned (.bool (hasRelB s r)) ∧ w = w' := by
  obtain ⟨a, cap, rfl⟩ := slR.form h
  have hla := slR.le_max h
  cases hs : schemaB s with
  | false =>
    have Hf := Lib.hid (show hasRelB s r = false by unfold hasRelB; rw [hs]; rfl)
    go_enter Tryz.func104, Tryz.ntmps104
    go_wp2_with (go_at_call 77; refine (implIsSchema_any _ s f _ h).mono ?_; rintro e w' ⟨rfl, rfl⟩)
    go_ret
    exact ⟨ret_bool (by rw [Hf.out]), rfl⟩
  | true =>
    have Hf := Lib.hid (show hasRelB s r = inR r 0 ((s.length : Int) - 1) by unfold hasRelB; rw [hs]; rfl)
    go_enter Tryz.func104, Tryz.ntmps104
    go_wp2_with (first
      | (go_at_call 77; refine (implIsSchema_any _ s f _ h).mono ?_; rintro e w' ⟨rfl, rfl⟩)
      | (go_at_call 107; refine (f107_any _ _ _ _).mono ?_; rintro e w' ⟨rfl, rfl⟩))
    go_ret
    exact ⟨ret_bool (by rw [Hf.out]), rfl⟩

set_option maxRecDepth 100000 in
set_option maxHeartbeats 800000 in
theorem implIsFact_any (sv : Value) (s : List Int) (fs : List Nat) (x : FactD) (vv : Value) (fv : List Nat) (w : World) (hs : ints w sv s fs) (hx : ints w vv x.vals fv) :
    Calls Tryz.prog 74 #[sv, .agg #[.int .i64 x.rel, vv]] w fun e w' => e = .returned (.bool (factB s x)) ∧ Below w.heap.size w w' := by
  obtain ⟨rel, vals⟩ := x
  obtain ⟨a, cap, rfl⟩ := slR.form hs
  obtain ⟨b, cap', rfl⟩ := slR.form hx
  have hla := slR.le_max hs
  have hlb := slR.le_max hx
  have hw1 : IntKind.i64.wrap ((s.length : Int) - 1) = (s.length : Int) - 1 := IntWalk.i64_in _ (by omega)
  have hs' := fun o => hs.al o
  have hx' := fun o => hx.al o
  cases hr : hasRelB s rel with
  | false =>
    have Hf := Lib.hid (show factB s ⟨rel, vals⟩ = false by unfold factB; rw [hr]; rfl)
    go_enter Tryz.func74, Tryz.ntmps74
    go_wp2
    go_quiet ((first
        | (go_at_call 104; exact qEq (retB (hasRel_any _ s fs _ _ ((hs' _).dn _)) hr))
        | (go_at_call 108; exact qEq (areValues_any _ vals fv _ ((hx' _).dn _)))))
    go_wp2
    go_ret
    exact ⟨ret_bool (by rw [Hf.out]), by repeat (first | exact Below.refl _ _ | refine bdn ?_ | refine ba ?_)⟩
  | true =>
    obtain ⟨_, _, k, rfl, hk⟩ := hasRel_nat hr
    have Hr := Lib.hid hr
    obtain ⟨g, rfl, hc, _, _, hfg⟩ := hs.get k hk
    have Hfg := Lib.hid hfg
    have hca := fun o => cell_al hc o
    clear hfg hc
    have hk0 : (0 : Int) ≤ (k : Int) := Int.natCast_nonneg _
    have hk1 : (k : Int) < (s.length : Int) := by omega
    by_cases hlen : (vals.length : Int) = s[k]
    · have Hf := Lib.hid (show factB s ⟨k, vals⟩ = !(vals.any fun n => !isVal n) by unfold factB; rw [hr, arity_nat hk, decide_eq_true hlen]; simp)
      have hd : ((vals.length : Int) == s[k]) = true := by simp [hlen]
      clear hlen
      go_enter Tryz.func74, Tryz.ntmps74
      go_wp2
      go_quiet ((first
        | (go_at_call 104; exact qEq (retB (hasRel_any _ s fs _ _ ((hs' _).dn _)) hr))
        | (go_at_call 108; exact qEq (areValues_any _ vals fv _ ((hx' _).dn _)))))
      go_wp2
      go_ret
      exact ⟨ret_bool (by rw [Hf.out]), by repeat (first | exact Below.refl _ _ | refine bdn ?_ | refine ba ?_)⟩
    · have Hf := Lib.hid (show factB s ⟨k, vals⟩ = false by unfold factB; rw [hr, arity_nat hk, decide_eq_false hlen]; simp)
      have hd : ((vals.length : Int) == s[k]) = false := by simp [hlen]
      clear hlen
      go_enter Tryz.func74, Tryz.ntmps74
      go_wp2
      go_quiet ((first
        | (go_at_call 104; exact qEq (retB (hasRel_any _ s fs _ _ ((hs' _).dn _)) hr))
        | (go_at_call 108; exact qEq (areValues_any _ vals fv _ ((hx' _).dn _)))))
      go_wp2
      go_ret
      exact ⟨ret_bool (by rw [Hf.out]), by repeat (first | exact Below.refl _ _ | refine bdn ?_ | refine ba ?_)⟩
set_option maxRecDepth 100000 in
set_option maxHeartbeats 800000 in
theorem specIsFact_any (sv : Value) (s : List Int) (fs : List Nat) (x : FactD) (vv : Value) (fv : List Nat) (w : World) (hs : ints w sv s fs) (hx : ints w vv x.vals fv) :
    Calls Tryz.prog 73 #[sv, .agg #[.int .i64 x.rel, vv]] w fun e w' => e = .returned (.bool (factB s x)) ∧ Below w.heap.size w w' := by
  obtain ⟨rel, vals⟩ := x
  obtain ⟨a, cap, rfl⟩ := slR.form hs
  obtain ⟨b, cap', rfl⟩ := slR.form hx
  have hla := slR.le_max hs
  have hlb := slR.le_max hx
  have hw1 : IntKind.i64.wrap ((s.length : Int) - 1) = (s.length : Int) - 1 := IntWalk.i64_in _ (by omega)
  have hs' := fun o => hs.al o
  have hx' := fun o => hx.al o
  cases hsc : schemaB s with
  | false =>
    have Hf := Lib.hid (show factB s ⟨rel, vals⟩ = false by unfold factB hasRelB; rw [hsc]; rfl)
    go_enter Tryz.func73, Tryz.ntmps73
    go_wp2
    go_quiet ((first
        | (go_at_call 78; exact qEq (retB (specIsSchema_any _ s fs _ ((hs' _).dn _)) hsc))
        | (go_at_call 86; exact qEq (retB (f86_any _ _ _ _) hin))))
    go_wp2
    go_ret
    exact ⟨ret_bool (by rw [Hf.out]), by repeat (first | exact Below.refl _ _ | refine bdn ?_ | refine ba ?_)⟩
  | true =>
    cases hin : inR rel 0 ((s.length : Int) - 1) with
    | false =>
      have Hf := Lib.hid (show factB s ⟨rel, vals⟩ = false by unfold factB hasRelB; rw [hsc, hin]; rfl)
      go_enter Tryz.func73, Tryz.ntmps73
      go_wp2
      go_quiet ((first
        | (go_at_call 78; exact qEq (retB (specIsSchema_any _ s fs _ ((hs' _).dn _)) hsc))
        | (go_at_call 86; exact qEq (retB (f86_any _ _ _ _) hin))))
      go_wp2
      go_ret
      exact ⟨ret_bool (by rw [Hf.out]), by repeat (first | exact Below.refl _ _ | refine bdn ?_ | refine ba ?_)⟩
    | true =>
      have hr : hasRelB s rel = true := by unfold hasRelB; rw [hsc, hin]; rfl
      obtain ⟨_, _, k, rfl, hk⟩ := hasRel_nat hr
      obtain ⟨g, rfl, hc, _, _, hfg⟩ := hs.get k hk
      have Hfg := Lib.hid hfg
      have Hr := Lib.hid hr
      have hca := fun o => cell_al hc o
      clear hfg hr hc
      have hk0 : (0 : Int) ≤ (k : Int) := Int.natCast_nonneg _
      have hk1 : (k : Int) < (s.length : Int) := by omega
      by_cases hlen : (vals.length : Int) = s[k]
      · have Hf := Lib.hid (show factB s ⟨k, vals⟩ = !(vals.any fun n => !isVal n) by unfold factB; rw [Hr.out, arity_nat hk, decide_eq_true hlen]; simp)
        have hd2 : ((vals.length : Int) != s[k]) = false := by simp [hlen]
        clear hlen
        go_enter Tryz.func73, Tryz.ntmps73
        go_wp2
        go_quiet ((first
        | (go_at_call 78; exact qEq (retB (specIsSchema_any _ s fs _ ((hs' _).dn _)) hsc))
        | (go_at_call 86; exact qEq (retB (f86_any _ _ _ _) hin))))
        go_wp2
        go_loop [5] (fun i => ∃ k : Nat, i = .int .i64 k ∧ k ≤ vals.length ∧ Hid (∀ j (hj : j < vals.length), j < k → (!isVal vals[j]) = false)) (fun i => vals.length - (intOf i).toNat)
        case atStart => exact ⟨0, rfl, Nat.zero_le _, Lib.hid (fun j hj h0 => by omega)⟩
        case round =>
          obtain ⟨j, rfl, hj, HN⟩ := hrel
          by_cases hlt : j < vals.length
          · obtain ⟨g2, rfl, hc2, _, _, _⟩ := (hx' (.cells #[.int .i64 (k : Int), .slice b vals.length cap'] 79)).get j hlt
            cases hp : isVal vals[j] with
            | false =>
              have hq : inR vals[j] 0 9 = false := hp
              have Hf2 := Lib.hid (Hf.out.trans (show (!(vals.any fun n => !isVal n)) = false by rw [any_true_of (p := fun n => !isVal n) hlt (by simp [hp])]; rfl))
              go_wp2_with (go_at_call 86; refine (f86_any _ _ _ _).mono ?_; rintro e w' ⟨rfl, rfl⟩)
              go_ret
              exact ⟨ret_bool (by rw [Hf2.out]), by repeat (first | exact Below.refl _ _ | refine bdn ?_ | refine ba ?_)⟩
            | true =>
              have hq : inR vals[j] 0 9 = true := hp
              have HN2 := Lib.hid (none_step (p := fun n => !isVal n) HN.out hlt (by simp [hp]))
              go_wp2_with (go_at_call 86; refine (f86_any _ _ _ _).mono ?_; rintro e w' ⟨rfl, rfl⟩)
              go_round
              case rel => exact ⟨j + 1, by go_num, by omega, HN2⟩
              case measure => simp [intOf]; omega
          · have hjl : j = vals.length := by omega
            have Hf2 := Lib.hid (Hf.out.trans (show (!(vals.any fun n => !isVal n)) = true by rw [any_false_of (p := fun n => !isVal n) (fun i hi => HN.out i hi (by omega))]; rfl))
            go_wp2
            go_ret
            exact ⟨ret_bool (by rw [Hf2.out]), by repeat (first | exact Below.refl _ _ | refine bdn ?_ | refine ba ?_)⟩
      · have Hf := Lib.hid (show factB s ⟨k, vals⟩ = false by unfold factB; rw [Hr.out, arity_nat hk, decide_eq_false hlen]; simp)
        have hd2 : ((vals.length : Int) != s[k]) = true := by simp [hlen]
        clear hlen
        go_enter Tryz.func73, Tryz.ntmps73
        go_wp2
        go_quiet ((first
        | (go_at_call 78; exact qEq (retB (specIsSchema_any _ s fs _ ((hs' _).dn _)) hsc))
        | (go_at_call 86; exact qEq (retB (f86_any _ _ _ _) hin))))
        go_wp2
        go_ret
        exact ⟨ret_bool (by rw [Hf.out]), by repeat (first | exact Below.refl _ _ | refine bdn ?_ | refine ba ?_)⟩
set_option maxRecDepth 100000 in
set_option maxHeartbeats 800000 in
theorem implIsAtom_any (sv : Value) (s : List Int) (fs : List Nat) (x : AtomD) (vv : Value) (fv : List Nat) (w : World) (hs : ints w sv s fs) (hx : ints w vv x.terms fv) :
    Calls Tryz.prog 53 #[sv, .agg #[.int .i64 x.rel, vv]] w fun e w' => e = .returned (.bool (atomB s x)) ∧ Below w.heap.size w w' := by
  obtain ⟨rel, vals⟩ := x
  obtain ⟨a, cap, rfl⟩ := slR.form hs
  obtain ⟨b, cap', rfl⟩ := slR.form hx
  have hla := slR.le_max hs
  have hlb := slR.le_max hx
  have hw1 : IntKind.i64.wrap ((s.length : Int) - 1) = (s.length : Int) - 1 := IntWalk.i64_in _ (by omega)
  have hs' := fun o => hs.al o
  have hx' := fun o => hx.al o
  cases hr : hasRelB s rel with
  | false =>
    have Hf := Lib.hid (show atomB s ⟨rel, vals⟩ = false by unfold atomB; rw [hr]; rfl)
    go_enter Tryz.func53, Tryz.ntmps53
    go_wp2
    go_quiet ((first
        | (go_at_call 104; exact qEq (retB (hasRel_any _ s fs _ _ ((hs' _).dn _)) hr))
        | (go_at_call 134; exact qEq (areTerms_any _ vals fv _ ((hx' _).dn _)))))
    go_wp2
    go_ret
    exact ⟨ret_bool (by rw [Hf.out]), by repeat (first | exact Below.refl _ _ | refine bdn ?_ | refine ba ?_)⟩
  | true =>
    obtain ⟨_, _, k, rfl, hk⟩ := hasRel_nat hr
    have Hr := Lib.hid hr
    obtain ⟨g, rfl, hc, _, _, hfg⟩ := hs.get k hk
    have Hfg := Lib.hid hfg
    have hca := fun o => cell_al hc o
    clear hfg hc
    have hk0 : (0 : Int) ≤ (k : Int) := Int.natCast_nonneg _
    have hk1 : (k : Int) < (s.length : Int) := by omega
    by_cases hlen : (vals.length : Int) = s[k]
    · have Hf := Lib.hid (show atomB s ⟨k, vals⟩ = !(vals.any fun n => !isTermB n) by unfold atomB; rw [hr, arity_nat hk, decide_eq_true hlen]; simp)
      have hd : ((vals.length : Int) == s[k]) = true := by simp [hlen]
      clear hlen
      go_enter Tryz.func53, Tryz.ntmps53
      go_wp2
      go_quiet ((first
        | (go_at_call 104; exact qEq (retB (hasRel_any _ s fs _ _ ((hs' _).dn _)) hr))
        | (go_at_call 134; exact qEq (areTerms_any _ vals fv _ ((hx' _).dn _)))))
      go_wp2
      go_ret
      exact ⟨ret_bool (by rw [Hf.out]), by repeat (first | exact Below.refl _ _ | refine bdn ?_ | refine ba ?_)⟩
    · have Hf := Lib.hid (show atomB s ⟨k, vals⟩ = false by unfold atomB; rw [hr, arity_nat hk, decide_eq_false hlen]; simp)
      have hd : ((vals.length : Int) == s[k]) = false := by simp [hlen]
      clear hlen
      go_enter Tryz.func53, Tryz.ntmps53
      go_wp2
      go_quiet ((first
        | (go_at_call 104; exact qEq (retB (hasRel_any _ s fs _ _ ((hs' _).dn _)) hr))
        | (go_at_call 134; exact qEq (areTerms_any _ vals fv _ ((hx' _).dn _)))))
      go_wp2
      go_ret
      exact ⟨ret_bool (by rw [Hf.out]), by repeat (first | exact Below.refl _ _ | refine bdn ?_ | refine ba ?_)⟩
set_option maxRecDepth 100000 in
set_option maxHeartbeats 800000 in
theorem specIsAtom_any (sv : Value) (s : List Int) (fs : List Nat) (x : AtomD) (vv : Value) (fv : List Nat) (w : World) (hs : ints w sv s fs) (hx : ints w vv x.terms fv) :
    Calls Tryz.prog 54 #[sv, .agg #[.int .i64 x.rel, vv]] w fun e w' => e = .returned (.bool (atomB s x)) ∧ Below w.heap.size w w' := by
  obtain ⟨rel, vals⟩ := x
  obtain ⟨a, cap, rfl⟩ := slR.form hs
  obtain ⟨b, cap', rfl⟩ := slR.form hx
  have hla := slR.le_max hs
  have hlb := slR.le_max hx
  have hw1 : IntKind.i64.wrap ((s.length : Int) - 1) = (s.length : Int) - 1 := IntWalk.i64_in _ (by omega)
  have hs' := fun o => hs.al o
  have hx' := fun o => hx.al o
  cases hsc : schemaB s with
  | false =>
    have Hf := Lib.hid (show atomB s ⟨rel, vals⟩ = false by unfold atomB hasRelB; rw [hsc]; rfl)
    go_enter Tryz.func54, Tryz.ntmps54
    go_wp2
    go_quiet ((first
        | (go_at_call 78; exact qEq (retB (specIsSchema_any _ s fs _ ((hs' _).dn _)) hsc))
        | (go_at_call 86; exact qEq (retB (f86_any _ _ _ _) hin))))
    go_wp2
    go_ret
    exact ⟨ret_bool (by rw [Hf.out]), by repeat (first | exact Below.refl _ _ | refine bdn ?_ | refine ba ?_)⟩
  | true =>
    cases hin : inR rel 0 ((s.length : Int) - 1) with
    | false =>
      have Hf := Lib.hid (show atomB s ⟨rel, vals⟩ = false by unfold atomB hasRelB; rw [hsc, hin]; rfl)
      go_enter Tryz.func54, Tryz.ntmps54
      go_wp2
      go_quiet ((first
        | (go_at_call 78; exact qEq (retB (specIsSchema_any _ s fs _ ((hs' _).dn _)) hsc))
        | (go_at_call 86; exact qEq (retB (f86_any _ _ _ _) hin))))
      go_wp2
      go_ret
      exact ⟨ret_bool (by rw [Hf.out]), by repeat (first | exact Below.refl _ _ | refine bdn ?_ | refine ba ?_)⟩
    | true =>
      have hr : hasRelB s rel = true := by unfold hasRelB; rw [hsc, hin]; rfl
      obtain ⟨_, _, k, rfl, hk⟩ := hasRel_nat hr
      obtain ⟨g, rfl, hc, _, _, hfg⟩ := hs.get k hk
      have Hfg := Lib.hid hfg
      have Hr := Lib.hid hr
      have hca := fun o => cell_al hc o
      clear hfg hr hc
      have hk0 : (0 : Int) ≤ (k : Int) := Int.natCast_nonneg _
      have hk1 : (k : Int) < (s.length : Int) := by omega
      by_cases hlen : (vals.length : Int) = s[k]
      · have Hf := Lib.hid (show atomB s ⟨k, vals⟩ = !(vals.any fun n => !isTermB n) by unfold atomB; rw [Hr.out, arity_nat hk, decide_eq_true hlen]; simp)
        have hd2 : ((vals.length : Int) != s[k]) = false := by simp [hlen]
        clear hlen
        go_enter Tryz.func54, Tryz.ntmps54
        go_wp2
        go_quiet ((first
        | (go_at_call 78; exact qEq (retB (specIsSchema_any _ s fs _ ((hs' _).dn _)) hsc))
        | (go_at_call 86; exact qEq (retB (f86_any _ _ _ _) hin))))
        go_wp2
        go_loop [5] (fun i => ∃ k : Nat, i = .int .i64 k ∧ k ≤ vals.length ∧ Hid (∀ j (hj : j < vals.length), j < k → (!isTermB vals[j]) = false)) (fun i => vals.length - (intOf i).toNat)
        case atStart => exact ⟨0, rfl, Nat.zero_le _, Lib.hid (fun j hj h0 => by omega)⟩
        case round =>
          obtain ⟨j, rfl, hj, HN⟩ := hrel
          by_cases hlt : j < vals.length
          · obtain ⟨g2, rfl, hc2, _, _, _⟩ := (hx' (.cells #[.int .i64 (k : Int), .slice b vals.length cap'] 69)).get j hlt
            cases hp : isTermB vals[j] with
            | false =>
              have hq := hp
              have Hf2 := Lib.hid (Hf.out.trans (show (!(vals.any fun n => !isTermB n)) = false by rw [any_true_of (p := fun n => !isTermB n) hlt (by simp [hp])]; rfl))
              go_wp2_with (go_at_call 135; refine (f135_any _ _).mono ?_; rintro e w' ⟨rfl, rfl⟩)
              go_ret
              exact ⟨ret_bool (by rw [Hf2.out]), by repeat (first | exact Below.refl _ _ | refine bdn ?_ | refine ba ?_)⟩
            | true =>
              have hq := hp
              have HN2 := Lib.hid (none_step (p := fun n => !isTermB n) HN.out hlt (by simp [hp]))
              go_wp2_with (go_at_call 135; refine (f135_any _ _).mono ?_; rintro e w' ⟨rfl, rfl⟩)
              go_round
              case rel => exact ⟨j + 1, by go_num, by omega, HN2⟩
              case measure => simp [intOf]; omega
          · have hjl : j = vals.length := by omega
            have Hf2 := Lib.hid (Hf.out.trans (show (!(vals.any fun n => !isTermB n)) = true by rw [any_false_of (p := fun n => !isTermB n) (fun i hi => HN.out i hi (by omega))]; rfl))
            go_wp2
            go_ret
            exact ⟨ret_bool (by rw [Hf2.out]), by repeat (first | exact Below.refl _ _ | refine bdn ?_ | refine ba ?_)⟩
      · have Hf := Lib.hid (show atomB s ⟨k, vals⟩ = false by unfold atomB; rw [Hr.out, arity_nat hk, decide_eq_false hlen]; simp)
        have hd2 : ((vals.length : Int) != s[k]) = true := by simp [hlen]
        clear hlen
        go_enter Tryz.func54, Tryz.ntmps54
        go_wp2
        go_quiet ((first
        | (go_at_call 78; exact qEq (retB (specIsSchema_any _ s fs _ ((hs' _).dn _)) hsc))
        | (go_at_call 86; exact qEq (retB (f86_any _ _ _ _) hin))))
        go_wp2
        go_ret
        exact ⟨ret_bool (by rw [Hf.out]), by repeat (first | exact Below.refl _ _ | refine bdn ?_ | refine ba ?_)⟩
end Go.Proofs.YtpdmdfkcaabnaaaGreatDoor
/- Regions that draw their order, whose operations only read what lay there before and whose callees make memory but turn nothing of the old: ONE walk in the order of the text. Over any program; no condition. -/
namespace Go.Proofs.YtpdmdfkcaabnaaaGreatDoor
open Go.RowKit
set_option linter.unusedVariables false
set_option linter.unusedSimpArgs false
/-- A world in which all that lay in w lies as it did. -/
structure Lat (w : World) where
  wd : World
  ok : Below w.heap.size w wd
instance (w : World) : Nonempty (Lat w) := ⟨⟨w, Below.refl _ _⟩⟩
section
variable {P : Program}
theorem wp_region_lat {id : Nat} {Q : Exit → Act → World → Prop} {a : Act} (w : World) {l : List Oper} (hm : P.follows .mixedOrders = true) (hB : Region.lexB .any l.toArray = true)
    (h : wpQuiet P l.toArray (fun w' => ∃ x : Lat w, w' = x.wd) (fun a' => ∀ w', (∃ x : Lat w, w' = x.wd) → Q .normal a' w') l a) : (Code.region id l.toArray true).wp P Q a w :=
  wp_region_quiet (C := fun w' => ∃ x : Lat w, w' = x.wd) hm hB ⟨⟨w.drew, (Below.refl _ _).drew⟩, rfl⟩ (by simpa using h)
theorem Lat.of {w : World} {x : Lat w} {f : FuncId} {args : Array Value} {v : Value} (h : Calls P f args x.wd fun e w' => e = .returned v ∧ Below x.wd.heap.size x.wd w') :
    Calls P f args x.wd fun e w'' => e = .returned v ∧ ∃ y : Lat w, w'' = y.wd := h.mono fun _ w' ⟨he, hw⟩ => ⟨he, ⟨w', bt x.ok hw⟩, rfl⟩
theorem Lat.eq {w : World} {x : Lat w} {f : FuncId} {args : Array Value} {v : Value} (h : Calls P f args x.wd fun e w' => e = .returned v ∧ x.wd = w') :
    Calls P f args x.wd fun e w'' => e = .returned v ∧ ∃ y : Lat w, w'' = y.wd := h.mono fun _ w' ⟨he, hw⟩ => ⟨he, x, hw.symm⟩
theorem Lat.qt {w : World} {x : Lat w} {f : FuncId} {args : Array Value} {v : Value} (h : Calls P f args x.wd fun e w' => e = .returned v ∧ Qt x.wd w') :
    Calls P f args x.wd fun e w'' => e = .returned v ∧ ∃ y : Lat w, w'' = y.wd := h.mono fun _ w' ⟨he, hw⟩ => ⟨he, ⟨w', bqt x.ok hw⟩, rfl⟩
theorem Lat.cell {w : World} (x : Lat w) {a : Addr} {u : Value} (h : w.cell? a = some u) : x.wd.cell? a = some u := cell_below h x.ok
theorem retBB {f : FuncId} {args : Array Value} {w : World} {b c : Bool} {N : Nat} (h : Calls P f args w fun e w' => e = .returned (.bool b) ∧ Below N w w') (hb : b = c) : Calls P f args w fun e w' => e = .returned (.bool c) ∧ Below N w w' := hb ▸ h
end
end Go.Proofs.YtpdmdfkcaabnaaaGreatDoor
/- FormatFact, FormatAccess and FormatAtom, of the program and of the reference. Condition: what the library's table reads as. -/
namespace Go.Proofs.YtpdmdfkcaabnaaaGreatDoor
open Go.RowKit
set_option linter.unusedVariables false
set_option linter.unusedSimpArgs false
theorem retStr {P : Program} {f : FuncId} {args : Array Value} {w : World} {a b : ByteArray} {Q : World → Prop} (h : Calls P f args w fun e w' => e = .returned (.string a) ∧ Q w') (hb : a = b) : Calls P f args w fun e w' => e = .returned (.string b) ∧ Q w' := hb ▸ h
theorem inR_i64 {n lo hi : Int} (h : inR n lo hi = true) (h1 : -9223372036854775808 ≤ lo) (h2 : hi ≤ 9223372036854775807) : I64 n := by have := inR_true h; exact ⟨by omega, by omega⟩
theorem isRel_any (r : Int) (w : World) : Calls Tryz.prog 91 #[.int .i64 r] w fun e w' => e = .returned (.bool (inR r 0 2)) ∧ w = w' := by
  go_enter Tryz.func91, Tryz.ntmps91
  go_wp2_with (go_at_call 107; refine (f107_any _ _ _ _).mono ?_; rintro e w' ⟨rfl, rfl⟩)
  go_ret
  exact ⟨rfl, rfl⟩
def factFB (x : FactD) : Bool := inR x.rel 0 2 && inR (x.vals.length : Int) 1 3 && !(x.vals.any fun n => !isVal n)
def factFS (x : FactD) : List UInt8 := if factFB x then 114 :: (Lib.itoa x.rel ++ (40 :: (listS x.vals [44] ++ [41]))) else []
theorem factFS_no {x : FactD} (h : factFB x = false) : factFS x = [] := by unfold factFS; rw [h]; rfl
theorem factFS_yes {x : FactD} (h : factFB x = true) : factFS x = 114 :: (Lib.itoa x.rel ++ (40 :: (listS x.vals [44] ++ [41]))) := by unfold factFS; rw [h]; rfl
set_option maxRecDepth 100000 in
set_option maxHeartbeats 1600000 in
theorem specFormatFact_any (x : FactD) (v : Value) (fv : List Nat) (w : World) (hx : ints w v x.vals fv) :
    Calls Tryz.prog 72 #[.agg #[.int .i64 x.rel, v]] w fun e w' => e = .returned (.string ⟨(factFS x).toArray⟩) ∧ Below w.heap.size w w' := by
  obtain ⟨r, vals⟩ := x
  obtain ⟨b, cap, rfl⟩ := slR.form hx
  have hla := slR.le_max hx
  have hI : ∀ y ∈ vals, I64 y := by obtain ⟨o, _, _, hw⟩ := row_of_ints hx; exact hw
  have HI := Lib.hid hI
  clear hI
  have hx' := fun o => hx.al o
  have Hd := Lib.hid (show factFB ⟨r, vals⟩ = (inR r 0 2 && inR (vals.length : Int) 1 3 && !(vals.any fun n => !isVal n)) from rfl)
  cases hr : inR r 0 2 with
  | false =>
    have Hf := Lib.hid (factFS_no (x := ⟨r, vals⟩) (by rw [Hd.out, hr]; rfl))
    go_enter Tryz.func72, Tryz.ntmps72
    go_wp2_with (go_at_call 86; refine (f86_any _ _ _ _).mono ?_; rintro e w' ⟨rfl, rfl⟩)
    go_ret
    exact ⟨ret_str' (by rw [Hf.out]), ba (Below.refl _ _)⟩
  | true =>
    have hIr := inR_i64 hr (by omega) (by omega)
    cases hl : inR (vals.length : Int) 1 3
    case false =>
      have Hf := Lib.hid (factFS_no (x := ⟨r, vals⟩) (by rw [Hd.out, hr, hl]; rfl))
      go_enter Tryz.func72, Tryz.ntmps72
      go_wp2_with (first | (go_at_call 86; refine (f86_any _ _ _ _).mono ?_; rintro e w' ⟨rfl, rfl⟩) | (go_at_call 86; refine (f86_any _ _ _ _).mono ?_; rintro e w' ⟨rfl, rfl⟩))
      go_ret
      exact ⟨ret_str' (by rw [Hf.out]), ba (Below.refl _ _)⟩
    have hln : vals.length ≤ 3 := by have := inR_true hl; omega
    have hn : vals.length ≤ 1048576 := by omega
    have Hd2 := Lib.hid (show factFB ⟨r, vals⟩ = !(vals.any fun n => !isVal n) by rw [Hd.out, hr, hl]; rfl)
    go_enter Tryz.func72, Tryz.ntmps72
    go_wp2_with (first | (go_at_call 86; refine (f86_any _ _ _ _).mono ?_; rintro e w' ⟨rfl, rfl⟩) | (go_at_call 86; refine (f86_any _ _ _ _).mono ?_; rintro e w' ⟨rfl, rfl⟩))
    go_loop [3] (fun i => ∃ k : Nat, i = .int .i64 k ∧ k ≤ vals.length ∧ Hid (∀ j (hj : j < vals.length), j < k → (!isVal vals[j]) = false)) (fun i => vals.length - (intOf i).toNat)
    case atStart => exact ⟨0, rfl, Nat.zero_le _, Lib.hid (fun j hj h0 => by omega)⟩
    case round =>
      obtain ⟨j, rfl, hj, HN⟩ := hrel
      by_cases hlt : j < vals.length
      · obtain ⟨g2, rfl, hc2, _, _, _⟩ := (hx' (.cells #[.int .i64 r, .slice b vals.length cap] 79)).get j hlt
        cases hp : isVal vals[j] with
        | false =>
          have hq : inR vals[j] 0 9 = false := hp
          have Hf := Lib.hid (factFS_no (x := ⟨r, vals⟩) (by rw [Hd2.out, any_true_of (p := fun n => !isVal n) hlt (by simp [hp])]; rfl))
          go_wp2_with (go_at_call 86; refine (retB (f86_any _ _ _ _) hq).mono ?_; rintro e w' ⟨rfl, rfl⟩)
          go_ret
          exact ⟨ret_str' (by rw [Hf.out]), ba (Below.refl _ _)⟩
        | true =>
          have hq : inR vals[j] 0 9 = true := hp
          have HN2 := Lib.hid (none_step (p := fun n => !isVal n) HN.out hlt (by simp [hp]))
          go_wp2_with (go_at_call 86; refine (retB (f86_any _ _ _ _) hq).mono ?_; rintro e w' ⟨rfl, rfl⟩)
          go_round
          case rel => exact ⟨j + 1, by go_num, by omega, HN2⟩
          case measure => simp [intOf]; omega
      · have hjl : j = vals.length := by omega
        have Hf := Lib.hid (factFS_yes (x := ⟨r, vals⟩) (by rw [Hd2.out, any_false_of (p := fun n => !isVal n) (fun i hi => HN.out i hi (by omega))]; rfl))
        clear hjl
        have Lb0 : ∀ y : Lat (w.alloc (.cells #[.int .i64 r, .slice b vals.length cap] 79)), y.wd.cell? ⟨w.heap.size, 0, none⟩ = some (.int .i64 r) := fun y => y.cell (cell_new w _ _ 0 _ rfl)
        have Lb1 : ∀ y : Lat (w.alloc (.cells #[.int .i64 r, .slice b vals.length cap] 79)), y.wd.cell? ⟨w.heap.size, 1, none⟩ = some (.slice b vals.length cap) := fun y => y.cell (cell_new w _ _ 1 _ rfl)
        have hxL : ∀ y : Lat (w.alloc (.cells #[.int .i64 r, .slice b vals.length cap] 79)), ints y.wd (.slice b vals.length cap) vals fv := fun y => (hx.al _).below' y.ok
        have hil := itoa_le hIr
        have hll : (listS vals [44]).length ≤ 100 := by
          have h1 := listS_len (l := vals) [44] HI.out
          have h2 : vals.length * (21 + [(44 : UInt8)].length) ≤ 3 * 22 := Nat.mul_le_mul (by omega) (by simp)
          omega
        go_wp2_with fail
        refine wp_region_lat (w.alloc (.cells #[.int .i64 r, .slice b vals.length cap] 79)) (by kernel_rfl) (by kernel_rfl) ?_
        repeat (go_big_quiet_step ((first
          | (go_at_call 103; exact Lat.of (retStr (specFormatInt_any r _ hIr) (numS_data r)))
          | (go_at_call 102; exact Lat.of (l2List_any _ vals fv _ (hxL _) hn)))))
        refine wpQuiet_nil ?_
        intro _ hw'
        obtain ⟨x1, hw''⟩ := hw'
        subst hw''
        have hbx := bt (ba (Below.refl _ _)) x1.ok
        clear Lb0 Lb1 hxL
        go_wp2
        go_ret
        exact ⟨ret_str' (by rw [Hf.out]; apply ByteArray.ext; simp), hbx⟩
set_option maxRecDepth 100000 in
set_option maxHeartbeats 1600000 in
theorem implFormatFact_any (x : FactD) (v : Value) (fv : List Nat) (w : World) (hx : ints w v x.vals fv) (hT : Lib.TabBelow Tryz.prog w.heap.size w "internal/strconv.uint64pow10" .u64 Lib.pow10Tab) :
    Calls Tryz.prog 65 #[.agg #[.int .i64 x.rel, v]] w fun e w' => e = .returned (.string ⟨(factFS x).toArray⟩) ∧ Below w.heap.size w w' := by
  obtain ⟨r, vals⟩ := x
  obtain ⟨b, cap, rfl⟩ := slR.form hx
  have hla := slR.le_max hx
  have hI : ∀ y ∈ vals, I64 y := by obtain ⟨o, _, _, hw⟩ := row_of_ints hx; exact hw
  have HI := Lib.hid hI
  clear hI
  have hx' := fun o => hx.al o
  have Hd := Lib.hid (show factFB ⟨r, vals⟩ = (inR r 0 2 && inR (vals.length : Int) 1 3 && !(vals.any fun n => !isVal n)) from rfl)
  cases hr : inR r 0 2 with
  | false =>
    have Hf := Lib.hid (factFS_no (x := ⟨r, vals⟩) (by rw [Hd.out, hr]; rfl))
    go_enter Tryz.func65, Tryz.ntmps65
    go_wp2_with (go_at_call 91; refine (isRel_any _ _).mono ?_; rintro e w' ⟨rfl, rfl⟩)
    go_ret
    exact ⟨ret_str' (by rw [Hf.out]), ba (Below.refl _ _)⟩
  | true =>
    have hIr := inR_i64 hr (by omega) (by omega)
    cases hl : inR (vals.length : Int) 1 3
    case false =>
      have Hf := Lib.hid (factFS_no (x := ⟨r, vals⟩) (by rw [Hd.out, hr, hl]; rfl))
      go_enter Tryz.func65, Tryz.ntmps65
      go_wp2_with (first | (go_at_call 91; refine (isRel_any _ _).mono ?_; rintro e w' ⟨rfl, rfl⟩) | (go_at_call 107; refine (f107_any _ _ _ _).mono ?_; rintro e w' ⟨rfl, rfl⟩))
      go_ret
      exact ⟨ret_str' (by rw [Hf.out]), ba (Below.refl _ _)⟩
    have hln : vals.length ≤ 3 := by have := inR_true hl; omega
    have hn : vals.length ≤ 1048576 := by omega
    have Hd2 := Lib.hid (show factFB ⟨r, vals⟩ = !(vals.any fun n => !isVal n) by rw [Hd.out, hr, hl]; rfl)
    cases ha : !(vals.any fun n => !isVal n) with
    | false =>
      have Hf := Lib.hid (factFS_no (x := ⟨r, vals⟩) (by rw [Hd2.out, ha]))
      go_enter Tryz.func65, Tryz.ntmps65
      go_wp2_with (first | (go_at_call 91; refine (isRel_any _ _).mono ?_; rintro e w' ⟨rfl, rfl⟩) | (go_at_call 107; refine (f107_any _ _ _ _).mono ?_; rintro e w' ⟨rfl, rfl⟩) | (go_at_call 108; refine (retB (areValues_any _ vals fv _ (hx' _)) ha).mono ?_; rintro e w' ⟨rfl, rfl⟩))
      go_ret
      exact ⟨ret_str' (by rw [Hf.out]), ba (Below.refl _ _)⟩
    | true =>
      have Hf := Lib.hid (factFS_yes (x := ⟨r, vals⟩) (by rw [Hd2.out, ha]))
      go_enter Tryz.func65, Tryz.ntmps65
      go_wp2_with (first | (go_at_call 91; refine (isRel_any _ _).mono ?_; rintro e w' ⟨rfl, rfl⟩) | (go_at_call 107; refine (f107_any _ _ _ _).mono ?_; rintro e w' ⟨rfl, rfl⟩) | (go_at_call 108; refine (retB (areValues_any _ vals fv _ (hx' _)) ha).mono ?_; rintro e w' ⟨rfl, rfl⟩))
      have Lb0 : ∀ y : Lat (w.alloc (.cells #[.int .i64 r, .slice b vals.length cap] 79)), y.wd.cell? ⟨w.heap.size, 0, none⟩ = some (.int .i64 r) := fun y => y.cell (cell_new w _ _ 0 _ rfl)
      have Lb1 : ∀ y : Lat (w.alloc (.cells #[.int .i64 r, .slice b vals.length cap] 79)), y.wd.cell? ⟨w.heap.size, 1, none⟩ = some (.slice b vals.length cap) := fun y => y.cell (cell_new w _ _ 1 _ rfl)
      have hxL : ∀ y : Lat (w.alloc (.cells #[.int .i64 r, .slice b vals.length cap] 79)), ints y.wd (.slice b vals.length cap) vals fv := fun y => (hx.al _).below' y.ok
      have hTL : ∀ y : Lat (w.alloc (.cells #[.int .i64 r, .slice b vals.length cap] 79)), Lib.TabBelow Tryz.prog y.wd.heap.size y.wd "internal/strconv.uint64pow10" .u64 Lib.pow10Tab := fun y => Tab.on hT (bt (ba (Below.refl _ _)) y.ok)
      have hil := itoa_le hIr
      have hll : (listS vals [44]).length ≤ 100 := by
        have h1 := listS_len (l := vals) [44] HI.out
        have h2 : vals.length * (21 + [(44 : UInt8)].length) ≤ 3 * 22 := Nat.mul_le_mul (by omega) (by simp)
        omega
      go_wp2_with fail
      refine wp_region_lat (w.alloc (.cells #[.int .i64 r, .slice b vals.length cap] 79)) (by kernel_rfl) (by kernel_rfl) ?_
      repeat (go_big_quiet_step ((first
        | (go_at_call 94; exact Lat.of (retStr (implFormatInt_any r _ hIr ((hTL _) _ (Below.refl _ _))) (numS_data r)))
        | (go_at_call 93; exact Lat.of (joined_any _ vals fv [44] (by simp) _ (hxL _) hn (hTL _))))))
      refine wpQuiet_nil ?_
      intro _ hw'
      obtain ⟨x1, hw''⟩ := hw'
      subst hw''
      have hbx := bt (ba (Below.refl _ _)) x1.ok
      clear Lb0 Lb1 hxL
      go_wp2
      go_ret
      exact ⟨ret_str' (by rw [Hf.out]; apply ByteArray.ext; simp), hbx⟩
def accessFB (x : AccD) : Bool := inR x.meth 0 4 && decide ((x.vals.length : Int) ≤ 3) && !(x.vals.any fun n => !isVal n)
def accessFS (x : AccD) : List UInt8 := if accessFB x then 109 :: (Lib.itoa x.meth ++ (40 :: (listS x.vals [44] ++ [41]))) else []
theorem accessFS_no {x : AccD} (h : accessFB x = false) : accessFS x = [] := by unfold accessFS; rw [h]; rfl
theorem accessFS_yes {x : AccD} (h : accessFB x = true) : accessFS x = 109 :: (Lib.itoa x.meth ++ (40 :: (listS x.vals [44] ++ [41]))) := by unfold accessFS; rw [h]; rfl
set_option maxRecDepth 100000 in
set_option maxHeartbeats 1600000 in
theorem specFormatAccess_any (x : AccD) (v : Value) (fv : List Nat) (w : World) (hx : ints w v x.vals fv) :
    Calls Tryz.prog 31 #[.agg #[.int .i64 x.meth, v]] w fun e w' => e = .returned (.string ⟨(accessFS x).toArray⟩) ∧ Below w.heap.size w w' := by
  obtain ⟨r, vals⟩ := x
  obtain ⟨b, cap, rfl⟩ := slR.form hx
  have hla := slR.le_max hx
  have hI : ∀ y ∈ vals, I64 y := by obtain ⟨o, _, _, hw⟩ := row_of_ints hx; exact hw
  have HI := Lib.hid hI
  clear hI
  have hx' := fun o => hx.al o
  have Hd := Lib.hid (show accessFB ⟨r, vals⟩ = (inR r 0 4 && decide ((vals.length : Int) ≤ 3) && !(vals.any fun n => !isVal n)) from rfl)
  cases hr : inR r 0 4 with
  | false =>
    have Hf := Lib.hid (accessFS_no (x := ⟨r, vals⟩) (by rw [Hd.out, hr]; rfl))
    go_enter Tryz.func31, Tryz.ntmps31
    go_wp2_with (go_at_call 86; refine (f86_any _ _ _ _).mono ?_; rintro e w' ⟨rfl, rfl⟩)
    go_ret
    exact ⟨ret_str' (by rw [Hf.out]), ba (Below.refl _ _)⟩
  | true =>
    have hIr := inR_i64 hr (by omega) (by omega)
    by_cases hl : (vals.length : Int) ≤ 3
    case neg =>
      have Hf := Lib.hid (accessFS_no (x := ⟨r, vals⟩) (by rw [Hd.out, hr, decide_eq_false hl]; rfl))
      have hg1 : (3 : Int) < (vals.length : Int) := by omega
      have hg2 : decide ((3 : Int) < (vals.length : Int)) = true := decide_eq_true hg1
      go_enter Tryz.func31, Tryz.ntmps31
      go_wp2_with (go_at_call 86; refine (f86_any _ _ _ _).mono ?_; rintro e w' ⟨rfl, rfl⟩)
      go_ret
      exact ⟨ret_str' (by rw [Hf.out]), ba (Below.refl _ _)⟩
    have hln : vals.length ≤ 3 := by omega
    have hn : vals.length ≤ 1048576 := by omega
    have Hd2 := Lib.hid (show accessFB ⟨r, vals⟩ = !(vals.any fun n => !isVal n) by rw [Hd.out, hr, decide_eq_true hl]; rfl)
    have hg1 : ¬ (3 : Int) < (vals.length : Int) := by omega
    have hg2 : decide ((3 : Int) < (vals.length : Int)) = false := decide_eq_false hg1
    go_enter Tryz.func31, Tryz.ntmps31
    go_wp2_with (go_at_call 86; refine (f86_any _ _ _ _).mono ?_; rintro e w' ⟨rfl, rfl⟩)
    go_loop [3] (fun i => ∃ k : Nat, i = .int .i64 k ∧ k ≤ vals.length ∧ Hid (∀ j (hj : j < vals.length), j < k → (!isVal vals[j]) = false)) (fun i => vals.length - (intOf i).toNat)
    case atStart => exact ⟨0, rfl, Nat.zero_le _, Lib.hid (fun j hj h0 => by omega)⟩
    case round =>
      obtain ⟨j, rfl, hj, HN⟩ := hrel
      by_cases hlt : j < vals.length
      · obtain ⟨g2, rfl, hc2, _, _, _⟩ := (hx' (.cells #[.int .i64 r, .slice b vals.length cap] 28)).get j hlt
        cases hp : isVal vals[j] with
        | false =>
          have hq : inR vals[j] 0 9 = false := hp
          have Hf := Lib.hid (accessFS_no (x := ⟨r, vals⟩) (by rw [Hd2.out, any_true_of (p := fun n => !isVal n) hlt (by simp [hp])]; rfl))
          go_wp2_with (go_at_call 86; refine (retB (f86_any _ _ _ _) hq).mono ?_; rintro e w' ⟨rfl, rfl⟩)
          go_ret
          exact ⟨ret_str' (by rw [Hf.out]), ba (Below.refl _ _)⟩
        | true =>
          have hq : inR vals[j] 0 9 = true := hp
          have HN2 := Lib.hid (none_step (p := fun n => !isVal n) HN.out hlt (by simp [hp]))
          go_wp2_with (go_at_call 86; refine (retB (f86_any _ _ _ _) hq).mono ?_; rintro e w' ⟨rfl, rfl⟩)
          go_round
          case rel => exact ⟨j + 1, by go_num, by omega, HN2⟩
          case measure => simp [intOf]; omega
      · have hjl : j = vals.length := by omega
        have Hf := Lib.hid (accessFS_yes (x := ⟨r, vals⟩) (by rw [Hd2.out, any_false_of (p := fun n => !isVal n) (fun i hi => HN.out i hi (by omega))]; rfl))
        clear hjl
        have Lb0 : ∀ y : Lat (w.alloc (.cells #[.int .i64 r, .slice b vals.length cap] 28)), y.wd.cell? ⟨w.heap.size, 0, none⟩ = some (.int .i64 r) := fun y => y.cell (cell_new w _ _ 0 _ rfl)
        have Lb1 : ∀ y : Lat (w.alloc (.cells #[.int .i64 r, .slice b vals.length cap] 28)), y.wd.cell? ⟨w.heap.size, 1, none⟩ = some (.slice b vals.length cap) := fun y => y.cell (cell_new w _ _ 1 _ rfl)
        have hxL : ∀ y : Lat (w.alloc (.cells #[.int .i64 r, .slice b vals.length cap] 28)), ints y.wd (.slice b vals.length cap) vals fv := fun y => (hx.al _).below' y.ok
        have hil := itoa_le hIr
        have hll : (listS vals [44]).length ≤ 100 := by
          have h1 := listS_len (l := vals) [44] HI.out
          have h2 : vals.length * (21 + [(44 : UInt8)].length) ≤ 3 * 22 := Nat.mul_le_mul (by omega) (by simp)
          omega
        go_wp2_with fail
        refine wp_region_lat (w.alloc (.cells #[.int .i64 r, .slice b vals.length cap] 28)) (by kernel_rfl) (by kernel_rfl) ?_
        repeat (go_big_quiet_step ((first
          | (go_at_call 103; exact Lat.of (retStr (specFormatInt_any r _ hIr) (numS_data r)))
          | (go_at_call 102; exact Lat.of (l2List_any _ vals fv _ (hxL _) hn)))))
        refine wpQuiet_nil ?_
        intro _ hw'
        obtain ⟨x1, hw''⟩ := hw'
        subst hw''
        have hbx := bt (ba (Below.refl _ _)) x1.ok
        clear Lb0 Lb1 hxL
        go_wp2
        go_ret
        exact ⟨ret_str' (by rw [Hf.out]; apply ByteArray.ext; simp), hbx⟩
set_option maxRecDepth 100000 in
set_option maxHeartbeats 1600000 in
theorem implFormatAccess_any (x : AccD) (v : Value) (fv : List Nat) (w : World) (hx : ints w v x.vals fv) (hT : Lib.TabBelow Tryz.prog w.heap.size w "internal/strconv.uint64pow10" .u64 Lib.pow10Tab) :
    Calls Tryz.prog 30 #[.agg #[.int .i64 x.meth, v]] w fun e w' => e = .returned (.string ⟨(accessFS x).toArray⟩) ∧ Below w.heap.size w w' := by
  obtain ⟨r, vals⟩ := x
  obtain ⟨b, cap, rfl⟩ := slR.form hx
  have hla := slR.le_max hx
  have hI : ∀ y ∈ vals, I64 y := by obtain ⟨o, _, _, hw⟩ := row_of_ints hx; exact hw
  have HI := Lib.hid hI
  clear hI
  have hx' := fun o => hx.al o
  have Hd := Lib.hid (show accessFB ⟨r, vals⟩ = (inR r 0 4 && decide ((vals.length : Int) ≤ 3) && !(vals.any fun n => !isVal n)) from rfl)
  cases hr : inR r 0 4 with
  | false =>
    have Hf := Lib.hid (accessFS_no (x := ⟨r, vals⟩) (by rw [Hd.out, hr]; rfl))
    go_enter Tryz.func30, Tryz.ntmps30
    go_wp2_with (go_at_call 107; refine (f107_any _ _ _ _).mono ?_; rintro e w' ⟨rfl, rfl⟩)
    go_ret
    exact ⟨ret_str' (by rw [Hf.out]), ba (Below.refl _ _)⟩
  | true =>
    have hIr := inR_i64 hr (by omega) (by omega)
    by_cases hl : (vals.length : Int) ≤ 3
    case neg =>
      have Hf := Lib.hid (accessFS_no (x := ⟨r, vals⟩) (by rw [Hd.out, hr, decide_eq_false hl]; rfl))
      have hg1 : (3 : Int) < (vals.length : Int) := by omega
      have hg2 : decide ((3 : Int) < (vals.length : Int)) = true := decide_eq_true hg1
      go_enter Tryz.func30, Tryz.ntmps30
      go_wp2_with (go_at_call 107; refine (f107_any _ _ _ _).mono ?_; rintro e w' ⟨rfl, rfl⟩)
      go_ret
      exact ⟨ret_str' (by rw [Hf.out]), ba (Below.refl _ _)⟩
    have hln : vals.length ≤ 3 := by omega
    have hn : vals.length ≤ 1048576 := by omega
    have Hd2 := Lib.hid (show accessFB ⟨r, vals⟩ = !(vals.any fun n => !isVal n) by rw [Hd.out, hr, decide_eq_true hl]; rfl)
    have hg1 : ¬ (3 : Int) < (vals.length : Int) := by omega
    have hg2 : decide ((3 : Int) < (vals.length : Int)) = false := decide_eq_false hg1
    cases ha : !(vals.any fun n => !isVal n) with
    | false =>
      have Hf := Lib.hid (accessFS_no (x := ⟨r, vals⟩) (by rw [Hd2.out, ha]))
      go_enter Tryz.func30, Tryz.ntmps30
      go_wp2_with (first | (go_at_call 107; refine (f107_any _ _ _ _).mono ?_; rintro e w' ⟨rfl, rfl⟩) | (go_at_call 108; refine (retB (areValues_any _ vals fv _ (hx' _)) ha).mono ?_; rintro e w' ⟨rfl, rfl⟩))
      go_ret
      exact ⟨ret_str' (by rw [Hf.out]), ba (Below.refl _ _)⟩
    | true =>
      have Hf := Lib.hid (accessFS_yes (x := ⟨r, vals⟩) (by rw [Hd2.out, ha]))
      go_enter Tryz.func30, Tryz.ntmps30
      go_wp2_with (first | (go_at_call 107; refine (f107_any _ _ _ _).mono ?_; rintro e w' ⟨rfl, rfl⟩) | (go_at_call 108; refine (retB (areValues_any _ vals fv _ (hx' _)) ha).mono ?_; rintro e w' ⟨rfl, rfl⟩))
      have Lb0 : ∀ y : Lat (w.alloc (.cells #[.int .i64 r, .slice b vals.length cap] 28)), y.wd.cell? ⟨w.heap.size, 0, none⟩ = some (.int .i64 r) := fun y => y.cell (cell_new w _ _ 0 _ rfl)
      have Lb1 : ∀ y : Lat (w.alloc (.cells #[.int .i64 r, .slice b vals.length cap] 28)), y.wd.cell? ⟨w.heap.size, 1, none⟩ = some (.slice b vals.length cap) := fun y => y.cell (cell_new w _ _ 1 _ rfl)
      have hxL : ∀ y : Lat (w.alloc (.cells #[.int .i64 r, .slice b vals.length cap] 28)), ints y.wd (.slice b vals.length cap) vals fv := fun y => (hx.al _).below' y.ok
      have hTL : ∀ y : Lat (w.alloc (.cells #[.int .i64 r, .slice b vals.length cap] 28)), Lib.TabBelow Tryz.prog y.wd.heap.size y.wd "internal/strconv.uint64pow10" .u64 Lib.pow10Tab := fun y => Tab.on hT (bt (ba (Below.refl _ _)) y.ok)
      have hil := itoa_le hIr
      have hll : (listS vals [44]).length ≤ 100 := by
        have h1 := listS_len (l := vals) [44] HI.out
        have h2 : vals.length * (21 + [(44 : UInt8)].length) ≤ 3 * 22 := Nat.mul_le_mul (by omega) (by simp)
        omega
      go_wp2_with fail
      refine wp_region_lat (w.alloc (.cells #[.int .i64 r, .slice b vals.length cap] 28)) (by kernel_rfl) (by kernel_rfl) ?_
      repeat (go_big_quiet_step ((first
        | (go_at_call 94; exact Lat.of (retStr (implFormatInt_any r _ hIr ((hTL _) _ (Below.refl _ _))) (numS_data r)))
        | (go_at_call 93; exact Lat.of (joined_any _ vals fv [44] (by simp) _ (hxL _) hn (hTL _))))))
      refine wpQuiet_nil ?_
      intro _ hw'
      obtain ⟨x1, hw''⟩ := hw'
      subst hw''
      have hbx := bt (ba (Below.refl _ _)) x1.ok
      clear Lb0 Lb1 hxL
      go_wp2
      go_ret
      exact ⟨ret_str' (by rw [Hf.out]; apply ByteArray.ext; simp), hbx⟩
def atomFB (x : AtomD) : Bool := inR x.rel 0 2 && inR (x.terms.length : Int) 1 3 && !(x.terms.any fun n => !isTermB n)
def atomFS (x : AtomD) : List UInt8 := if atomFB x then 114 :: (Lib.itoa x.rel ++ (40 :: (termsS x.terms [44] ++ [41]))) else []
theorem atomFS_no {x : AtomD} (h : atomFB x = false) : atomFS x = [] := by unfold atomFS; rw [h]; rfl
theorem atomFS_yes {x : AtomD} (h : atomFB x = true) : atomFS x = 114 :: (Lib.itoa x.rel ++ (40 :: (termsS x.terms [44] ++ [41]))) := by unfold atomFS; rw [h]; rfl
set_option maxRecDepth 100000 in
set_option maxHeartbeats 1600000 in
theorem specFormatAtom_any (x : AtomD) (v : Value) (fv : List Nat) (w : World) (hx : ints w v x.terms fv) :
    Calls Tryz.prog 56 #[.agg #[.int .i64 x.rel, v]] w fun e w' => e = .returned (.string ⟨(atomFS x).toArray⟩) ∧ Below w.heap.size w w' := by
  obtain ⟨r, vals⟩ := x
  obtain ⟨b, cap, rfl⟩ := slR.form hx
  have hla := slR.le_max hx
  have hI : ∀ y ∈ vals, I64 y := by obtain ⟨o, _, _, hw⟩ := row_of_ints hx; exact hw
  have HI := Lib.hid hI
  clear hI
  have hx' := fun o => hx.al o
  have Hd := Lib.hid (show atomFB ⟨r, vals⟩ = (inR r 0 2 && inR (vals.length : Int) 1 3 && !(vals.any fun n => !isTermB n)) from rfl)
  cases hr : inR r 0 2 with
  | false =>
    have Hf := Lib.hid (atomFS_no (x := ⟨r, vals⟩) (by rw [Hd.out, hr]; rfl))
    go_enter Tryz.func56, Tryz.ntmps56
    go_wp2_with (go_at_call 86; refine (f86_any _ _ _ _).mono ?_; rintro e w' ⟨rfl, rfl⟩)
    go_ret
    exact ⟨ret_str' (by rw [Hf.out]), ba (Below.refl _ _)⟩
  | true =>
    have hIr := inR_i64 hr (by omega) (by omega)
    cases hl : inR (vals.length : Int) 1 3
    case false =>
      have Hf := Lib.hid (atomFS_no (x := ⟨r, vals⟩) (by rw [Hd.out, hr, hl]; rfl))
      go_enter Tryz.func56, Tryz.ntmps56
      go_wp2_with (first | (go_at_call 86; refine (f86_any _ _ _ _).mono ?_; rintro e w' ⟨rfl, rfl⟩) | (go_at_call 86; refine (f86_any _ _ _ _).mono ?_; rintro e w' ⟨rfl, rfl⟩))
      go_ret
      exact ⟨ret_str' (by rw [Hf.out]), ba (Below.refl _ _)⟩
    have hln : vals.length ≤ 3 := by have := inR_true hl; omega
    have hn : vals.length ≤ 1048576 := by omega
    have Hd2 := Lib.hid (show atomFB ⟨r, vals⟩ = !(vals.any fun n => !isTermB n) by rw [Hd.out, hr, hl]; rfl)
    go_enter Tryz.func56, Tryz.ntmps56
    go_wp2_with (first | (go_at_call 86; refine (f86_any _ _ _ _).mono ?_; rintro e w' ⟨rfl, rfl⟩) | (go_at_call 86; refine (f86_any _ _ _ _).mono ?_; rintro e w' ⟨rfl, rfl⟩))
    go_loop [3] (fun i => ∃ k : Nat, i = .int .i64 k ∧ k ≤ vals.length ∧ Hid (∀ j (hj : j < vals.length), j < k → (!isTermB vals[j]) = false)) (fun i => vals.length - (intOf i).toNat)
    case atStart => exact ⟨0, rfl, Nat.zero_le _, Lib.hid (fun j hj h0 => by omega)⟩
    case round =>
      obtain ⟨j, rfl, hj, HN⟩ := hrel
      by_cases hlt : j < vals.length
      · obtain ⟨g2, rfl, hc2, _, _, _⟩ := (hx' (.cells #[.int .i64 r, .slice b vals.length cap] 69)).get j hlt
        cases hp : isTermB vals[j] with
        | false =>
          have hq := hp
          have Hf := Lib.hid (atomFS_no (x := ⟨r, vals⟩) (by rw [Hd2.out, any_true_of (p := fun n => !isTermB n) hlt (by simp [hp])]; rfl))
          go_wp2_with (go_at_call 135; refine (retB (f135_any _ _) hq).mono ?_; rintro e w' ⟨rfl, rfl⟩)
          go_ret
          exact ⟨ret_str' (by rw [Hf.out]), ba (Below.refl _ _)⟩
        | true =>
          have hq := hp
          have HN2 := Lib.hid (none_step (p := fun n => !isTermB n) HN.out hlt (by simp [hp]))
          go_wp2_with (go_at_call 135; refine (retB (f135_any _ _) hq).mono ?_; rintro e w' ⟨rfl, rfl⟩)
          go_round
          case rel => exact ⟨j + 1, by go_num, by omega, HN2⟩
          case measure => simp [intOf]; omega
      · have hjl : j = vals.length := by omega
        have Hf := Lib.hid (atomFS_yes (x := ⟨r, vals⟩) (by rw [Hd2.out, any_false_of (p := fun n => !isTermB n) (fun i hi => HN.out i hi (by omega))]; rfl))
        clear hjl
        have Lb0 : ∀ y : Lat (w.alloc (.cells #[.int .i64 r, .slice b vals.length cap] 69)), y.wd.cell? ⟨w.heap.size, 0, none⟩ = some (.int .i64 r) := fun y => y.cell (cell_new w _ _ 0 _ rfl)
        have Lb1 : ∀ y : Lat (w.alloc (.cells #[.int .i64 r, .slice b vals.length cap] 69)), y.wd.cell? ⟨w.heap.size, 1, none⟩ = some (.slice b vals.length cap) := fun y => y.cell (cell_new w _ _ 1 _ rfl)
        have hxL : ∀ y : Lat (w.alloc (.cells #[.int .i64 r, .slice b vals.length cap] 69)), ints y.wd (.slice b vals.length cap) vals fv := fun y => (hx.al _).below' y.ok
        have hil := itoa_le hIr
        have hll : (termsS vals [44]).length ≤ 100 := by
          have h1 := termsS_len (l := vals) [44] HI.out
          have h2 : vals.length * (22 + [(44 : UInt8)].length) ≤ 3 * 23 := Nat.mul_le_mul (by omega) (by simp)
          omega
        go_wp2_with fail
        refine wp_region_lat (w.alloc (.cells #[.int .i64 r, .slice b vals.length cap] 69)) (by kernel_rfl) (by kernel_rfl) ?_
        repeat (go_big_quiet_step ((first
          | (go_at_call 103; exact Lat.of (retStr (specFormatInt_any r _ hIr) (numS_data r)))
          | (go_at_call 118; exact Lat.of (l3Terms_any _ vals fv _ (hxL _) hn)))))
        refine wpQuiet_nil ?_
        intro _ hw'
        obtain ⟨x1, hw''⟩ := hw'
        subst hw''
        have hbx := bt (ba (Below.refl _ _)) x1.ok
        clear Lb0 Lb1 hxL
        go_wp2
        go_ret
        exact ⟨ret_str' (by rw [Hf.out]; apply ByteArray.ext; simp), hbx⟩
set_option maxRecDepth 100000 in
set_option maxHeartbeats 1600000 in
theorem implFormatAtom_any (x : AtomD) (v : Value) (fv : List Nat) (w : World) (hx : ints w v x.terms fv) (hT : Lib.TabBelow Tryz.prog w.heap.size w "internal/strconv.uint64pow10" .u64 Lib.pow10Tab) :
    Calls Tryz.prog 55 #[.agg #[.int .i64 x.rel, v]] w fun e w' => e = .returned (.string ⟨(atomFS x).toArray⟩) ∧ Below w.heap.size w w' := by
  obtain ⟨r, vals⟩ := x
  obtain ⟨b, cap, rfl⟩ := slR.form hx
  have hla := slR.le_max hx
  have hI : ∀ y ∈ vals, I64 y := by obtain ⟨o, _, _, hw⟩ := row_of_ints hx; exact hw
  have HI := Lib.hid hI
  clear hI
  have hx' := fun o => hx.al o
  have Hd := Lib.hid (show atomFB ⟨r, vals⟩ = (inR r 0 2 && inR (vals.length : Int) 1 3 && !(vals.any fun n => !isTermB n)) from rfl)
  cases hr : inR r 0 2 with
  | false =>
    have Hf := Lib.hid (atomFS_no (x := ⟨r, vals⟩) (by rw [Hd.out, hr]; rfl))
    go_enter Tryz.func55, Tryz.ntmps55
    go_wp2_with (go_at_call 91; refine (isRel_any _ _).mono ?_; rintro e w' ⟨rfl, rfl⟩)
    go_ret
    exact ⟨ret_str' (by rw [Hf.out]), ba (Below.refl _ _)⟩
  | true =>
    have hIr := inR_i64 hr (by omega) (by omega)
    cases hl : inR (vals.length : Int) 1 3
    case false =>
      have Hf := Lib.hid (atomFS_no (x := ⟨r, vals⟩) (by rw [Hd.out, hr, hl]; rfl))
      go_enter Tryz.func55, Tryz.ntmps55
      go_wp2_with (first | (go_at_call 91; refine (isRel_any _ _).mono ?_; rintro e w' ⟨rfl, rfl⟩) | (go_at_call 107; refine (f107_any _ _ _ _).mono ?_; rintro e w' ⟨rfl, rfl⟩))
      go_ret
      exact ⟨ret_str' (by rw [Hf.out]), ba (Below.refl _ _)⟩
    have hln : vals.length ≤ 3 := by have := inR_true hl; omega
    have hn : vals.length ≤ 1048576 := by omega
    have Hd2 := Lib.hid (show atomFB ⟨r, vals⟩ = !(vals.any fun n => !isTermB n) by rw [Hd.out, hr, hl]; rfl)
    cases ha : !(vals.any fun n => !isTermB n) with
    | false =>
      have Hf := Lib.hid (atomFS_no (x := ⟨r, vals⟩) (by rw [Hd2.out, ha]))
      go_enter Tryz.func55, Tryz.ntmps55
      go_wp2_with (first | (go_at_call 91; refine (isRel_any _ _).mono ?_; rintro e w' ⟨rfl, rfl⟩) | (go_at_call 107; refine (f107_any _ _ _ _).mono ?_; rintro e w' ⟨rfl, rfl⟩) | (go_at_call 134; refine (retB (areTerms_any _ vals fv _ (hx' _)) ha).mono ?_; rintro e w' ⟨rfl, rfl⟩))
      go_ret
      exact ⟨ret_str' (by rw [Hf.out]), ba (Below.refl _ _)⟩
    | true =>
      have Hf := Lib.hid (atomFS_yes (x := ⟨r, vals⟩) (by rw [Hd2.out, ha]))
      go_enter Tryz.func55, Tryz.ntmps55
      go_wp2_with (first | (go_at_call 91; refine (isRel_any _ _).mono ?_; rintro e w' ⟨rfl, rfl⟩) | (go_at_call 107; refine (f107_any _ _ _ _).mono ?_; rintro e w' ⟨rfl, rfl⟩) | (go_at_call 134; refine (retB (areTerms_any _ vals fv _ (hx' _)) ha).mono ?_; rintro e w' ⟨rfl, rfl⟩))
      have Lb0 : ∀ y : Lat (w.alloc (.cells #[.int .i64 r, .slice b vals.length cap] 69)), y.wd.cell? ⟨w.heap.size, 0, none⟩ = some (.int .i64 r) := fun y => y.cell (cell_new w _ _ 0 _ rfl)
      have Lb1 : ∀ y : Lat (w.alloc (.cells #[.int .i64 r, .slice b vals.length cap] 69)), y.wd.cell? ⟨w.heap.size, 1, none⟩ = some (.slice b vals.length cap) := fun y => y.cell (cell_new w _ _ 1 _ rfl)
      have hxL : ∀ y : Lat (w.alloc (.cells #[.int .i64 r, .slice b vals.length cap] 69)), ints y.wd (.slice b vals.length cap) vals fv := fun y => (hx.al _).below' y.ok
      have hTL : ∀ y : Lat (w.alloc (.cells #[.int .i64 r, .slice b vals.length cap] 69)), Lib.TabBelow Tryz.prog y.wd.heap.size y.wd "internal/strconv.uint64pow10" .u64 Lib.pow10Tab := fun y => Tab.on hT (bt (ba (Below.refl _ _)) y.ok)
      have hil := itoa_le hIr
      have hll : (termsS vals [44]).length ≤ 100 := by
        have h1 := termsS_len (l := vals) [44] HI.out
        have h2 : vals.length * (22 + [(44 : UInt8)].length) ≤ 3 * 23 := Nat.mul_le_mul (by omega) (by simp)
        omega
      go_wp2_with fail
      refine wp_region_lat (w.alloc (.cells #[.int .i64 r, .slice b vals.length cap] 69)) (by kernel_rfl) (by kernel_rfl) ?_
      repeat (go_big_quiet_step ((first
        | (go_at_call 94; exact Lat.of (retStr (implFormatInt_any r _ hIr ((hTL _) _ (Below.refl _ _))) (numS_data r)))
        | (go_at_call 115; exact Lat.of (termsText_any _ vals fv _ (hxL _) hn (hTL _))))))
      refine wpQuiet_nil ?_
      intro _ hw'
      obtain ⟨x1, hw''⟩ := hw'
      subst hw''
      have hbx := bt (ba (Below.refl _ _)) x1.ok
      clear Lb0 Lb1 hxL
      go_wp2
      go_ret
      exact ⟨ret_str' (by rw [Hf.out]; apply ByteArray.ext; simp), hbx⟩
end Go.Proofs.YtpdmdfkcaabnaaaGreatDoor
/- The laws' helpers at Fact and at slices of it: size, copy, comparison, marks, marks held. Conditions: the sizes that the laws themselves ask. -/
namespace Go.Proofs.YtpdmdfkcaabnaaaGreatDoor
open Go.RowKit
set_option linter.unusedVariables false
set_option linter.unusedSimpArgs false
instance : DecidableEq FactD := fun a b => decidable_of_iff (a.rel = b.rel ∧ a.vals = b.vals) (by cases a; cases b; simp)
instance : Inhabited FactD := ⟨⟨0, []⟩⟩
def bulkFact (x : FactD) : Nat := x.vals.length
theorem infoFactS : (Tryz.prog.info? 79).map (fun i => (i.zero, i.size, i.bytes)) = some (some (.agg #[.int .i64 0, .slice none 0 0]), 2, 32) := by kernel_rfl
theorem slFactS : SlT Tryz.prog 26 79 (.agg #[.int .i64 0, .slice none 0 0]) 2 32 := slT_of Tryz.underlying26 infoFactS rfl (by decide)
def bulkFactS (l : List FactD) : Nat := l.length + (l.map fun x => bulkFact x).sum
def markFactD (k : Int) (x : FactD) : FactD := { rel := k, vals := marks (k + 1) x.vals.length }
def cntFact (x : FactD) : Nat := 1 + x.vals.length
end Go.Proofs.YtpdmdfkcaabnaaaGreatDoor
/- The laws' helpers at Method and at slices of it: size, copy, comparison, marks, marks held. Conditions: the sizes that the laws themselves ask. -/
namespace Go.Proofs.YtpdmdfkcaabnaaaGreatDoor
open Go.RowKit
set_option linter.unusedVariables false
set_option linter.unusedSimpArgs false
instance : DecidableEq MethD := fun a b => decidable_of_iff (a.rel = b.rel ∧ a.inputs = b.inputs ∧ a.limit = b.limit ∧ a.cost = b.cost ∧ a.quota = b.quota) (by cases a; cases b; simp)
instance : Inhabited MethD := ⟨⟨0, [], 0, 0, 0⟩⟩
def bulkMethod (x : MethD) : Nat := x.inputs.length
theorem infoMethodS : (Tryz.prog.info? 38).map (fun i => (i.zero, i.size, i.bytes)) = some (some (.agg #[.int .i64 0, .slice none 0 0, .int .i64 0, .int .i64 0, .int .i64 0]), 5, 56) := by kernel_rfl
theorem slMethodS : SlT Tryz.prog 25 38 (.agg #[.int .i64 0, .slice none 0 0, .int .i64 0, .int .i64 0, .int .i64 0]) 5 56 := slT_of Tryz.underlying25 infoMethodS rfl (by decide)
def bulkMethodS (l : List MethD) : Nat := l.length + (l.map fun x => bulkMethod x).sum
def markMethodD (k : Int) (x : MethD) : MethD := { rel := k, inputs := marks (k + 1) x.inputs.length, limit := k + 1 + (x.inputs.length : Int), cost := k + 1 + (x.inputs.length : Int) + 1, quota := k + 1 + (x.inputs.length : Int) + 1 + 1 }
def cntMethod (x : MethD) : Nat := 1 + x.inputs.length + 1 + 1 + 1
end Go.Proofs.YtpdmdfkcaabnaaaGreatDoor
/- The laws' helpers at Access and at slices of it: size, copy, comparison, marks, marks held. Conditions: the sizes that the laws themselves ask. -/
namespace Go.Proofs.YtpdmdfkcaabnaaaGreatDoor
open Go.RowKit
set_option linter.unusedVariables false
set_option linter.unusedSimpArgs false
instance : DecidableEq AccD := fun a b => decidable_of_iff (a.meth = b.meth ∧ a.vals = b.vals) (by cases a; cases b; simp)
instance : Inhabited AccD := ⟨⟨0, []⟩⟩
def bulkAccess (x : AccD) : Nat := x.vals.length
theorem infoAccessS : (Tryz.prog.info? 28).map (fun i => (i.zero, i.size, i.bytes)) = some (some (.agg #[.int .i64 0, .slice none 0 0]), 2, 32) := by kernel_rfl
theorem slAccessS : SlT Tryz.prog 49 28 (.agg #[.int .i64 0, .slice none 0 0]) 2 32 := slT_of Tryz.underlying49 infoAccessS rfl (by decide)
def bulkAccessS (l : List AccD) : Nat := l.length + (l.map fun x => bulkAccess x).sum
def markAccessD (k : Int) (x : AccD) : AccD := { meth := k, vals := marks (k + 1) x.vals.length }
def cntAccess (x : AccD) : Nat := 1 + x.vals.length
end Go.Proofs.YtpdmdfkcaabnaaaGreatDoor
/- The laws' helpers at Atom and at slices of it: size, copy, comparison, marks, marks held. Conditions: the sizes that the laws themselves ask. -/
namespace Go.Proofs.YtpdmdfkcaabnaaaGreatDoor
open Go.RowKit
set_option linter.unusedVariables false
set_option linter.unusedSimpArgs false
instance : DecidableEq AtomD := fun a b => decidable_of_iff (a.rel = b.rel ∧ a.terms = b.terms) (by cases a; cases b; simp)
instance : Inhabited AtomD := ⟨⟨0, []⟩⟩
def bulkAtom (x : AtomD) : Nat := x.terms.length
theorem infoAtomS : (Tryz.prog.info? 69).map (fun i => (i.zero, i.size, i.bytes)) = some (some (.agg #[.int .i64 0, .slice none 0 0]), 2, 32) := by kernel_rfl
theorem slAtomS : SlT Tryz.prog 56 69 (.agg #[.int .i64 0, .slice none 0 0]) 2 32 := slT_of Tryz.underlying56 infoAtomS rfl (by decide)
def bulkAtomS (l : List AtomD) : Nat := l.length + (l.map fun x => bulkAtom x).sum
def markAtomD (k : Int) (x : AtomD) : AtomD := { rel := k, terms := marks (k + 1) x.terms.length }
def cntAtom (x : AtomD) : Nat := 1 + x.terms.length
end Go.Proofs.YtpdmdfkcaabnaaaGreatDoor
/- The laws' helpers at Step and at slices of it: size, copy, comparison, marks, marks held. Conditions: the sizes that the laws themselves ask. -/
namespace Go.Proofs.YtpdmdfkcaabnaaaGreatDoor
open Go.RowKit
set_option linter.unusedVariables false
set_option linter.unusedSimpArgs false
end Go.Proofs.YtpdmdfkcaabnaaaGreatDoor
/- The laws' helpers at [][]int: size, copy, comparison, marks, marks held. Conditions: the sizes that the laws themselves ask. -/
namespace Go.Proofs.YtpdmdfkcaabnaaaGreatDoor
open Go.RowKit
set_option linter.unusedVariables false
set_option linter.unusedSimpArgs false
end Go.Proofs.YtpdmdfkcaabnaaaGreatDoor
