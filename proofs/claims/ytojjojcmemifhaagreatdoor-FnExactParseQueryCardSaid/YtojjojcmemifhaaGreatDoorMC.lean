/- Several of my texts as one: IsFact, Lat, FmtRec, HFact, HMeth, HAcc, HAtom, HStep, HIntSS. -/
import Derived.Test.YtojjojcmemifhaaGreatDoorMA
import Derived.IntWalk
import Derived.Test.YtojjojcmemifhaaGreatDoorMB
import Derived.Deep.QuietTactic
import Derived.BigQuiet
import Derived.StillTailTactics
/- IsFact and IsAtom, of the program and of the reference, and what they call. No condition. -/
namespace Go.Proofs.YtojjojcmemifhaaGreatDoor
open Go.RowKit
set_option linter.unusedVariables false
set_option linter.unusedSimpArgs false
theorem retB {P : Program} {f : FuncId} {args : Array Value} {w : World} {b c : Bool} (h : Calls P f args w fun e w' => e = .returned (.bool b) ∧ w = w') (hb : b = c) : Calls P f args w fun e w' => e = .returned (.bool c) ∧ w = w' := hb ▸ h
theorem hasRel_nat {s : List Int} {r : Int} (h : hasRelB s r = true) : schemaB s = true ∧ inR r 0 ((s.length : Int) - 1) = true ∧ ∃ k : Nat, r = k ∧ k < s.length := by
  unfold hasRelB at h
  rw [Bool.and_eq_true] at h
  have h2 := inR_true h.2
  obtain ⟨k, rfl⟩ := Int.eq_ofNat_of_zero_le h2.1
  exact ⟨h.1, h.2, k, rfl, by omega⟩
theorem arity_nat {s : List Int} {k : Nat} (h : k < s.length) : arity s (k : Int) = s[k] := by
  unfold arity; rw [Int.toNat_natCast, getD_lt h]
theorem areValues1_any (x : Int) (w : World) :
    Calls Tryz.prog 189 #[.int .i64 x] w fun e w' => e = .returned (.bool (!isVal x)) ∧ w = w' := by
  go_enter Tryz.func189, Tryz.ntmps189
  go_wp2_with (go_at_call 145; refine (f145_any _ _).mono ?_; rintro e w' ⟨rfl, rfl⟩)
  go_ret
  exact ⟨rfl, rfl⟩
theorem areValues_any (v : Value) (l : List Int) (f : List Nat) (w : World) (h : ints w v l f) :
    Calls Tryz.prog 120 #[v] w fun e w' => e = .returned (.bool (!(l.any fun n => !isVal n))) ∧ w = w' := by
  obtain ⟨a, cap, rfl⟩ := slR.form h
  have hP := plain_of Tryz.func189 (by kernel_rfl) (by kernel_rfl)
  go_enter Tryz.func120, Tryz.ntmps120
  go_wp2_with fail
  refine (containsFuncIntQ_any _ hP #[] (fun x => #[.int .i64 x]) (fun _ => rfl) (fun n => !isVal n) _ l f _ h (fun i hi => areValues1_any _ _)).mono ?_
  rintro e w1 ⟨rfl, rfl⟩
  go_wp2
  go_ret
  exact ⟨rfl, rfl⟩
theorem areTerms1_any (x : Int) (w : World) :
    Calls Tryz.prog 208 #[.int .i64 x] w fun e w' => e = .returned (.bool (!isTermB x)) ∧ w = w' := by
  go_enter Tryz.func208, Tryz.ntmps208
  go_wp2_with (go_at_call 56; refine (f56_any _ _).mono ?_; rintro e w' ⟨rfl, rfl⟩)
  go_ret
  exact ⟨rfl, rfl⟩
theorem areTerms_any (v : Value) (l : List Int) (f : List Nat) (w : World) (h : ints w v l f) :
    Calls Tryz.prog 150 #[v] w fun e w' => e = .returned (.bool (!(l.any fun n => !isTermB n))) ∧ w = w' := by
  obtain ⟨a, cap, rfl⟩ := slR.form h
  have hP := plain_of Tryz.func208 (by kernel_rfl) (by kernel_rfl)
  go_enter Tryz.func150, Tryz.ntmps150
  go_wp2_with fail
  refine (containsFuncIntQ_any _ hP #[] (fun x => #[.int .i64 x]) (fun _ => rfl) (fun n => !isTermB n) _ l f _ h (fun i hi => areTerms1_any _ _)).mono ?_
  rintro e w1 ⟨rfl, rfl⟩
  go_wp2
  go_ret
  exact ⟨rfl, rfl⟩
theorem hasRel_any (v : Value) (s : List Int) (f : List Nat) (r : Int) (w : World) (h : ints w v s f) :
    Calls Tryz.prog 116 #[v, .int .i64 r] w fun e w' => e = .returned (.bool (hasRelB s r)) ∧ w = w' := by
  obtain ⟨a, cap, rfl⟩ := slR.form h
  have hla := slR.le_max h
  cases hs : schemaB s with
  | false =>
    have Hf := Lib.hid (show hasRelB s r = false by unfold hasRelB; rw [hs]; rfl)
    go_enter Tryz.func116, Tryz.ntmps116
    go_wp2_with (go_at_call 89; refine (implIsSchema_any _ s f _ h).mono ?_; rintro e w' ⟨rfl, rfl⟩)
    go_ret
    exact ⟨ret_bool (by rw [Hf.out]), rfl⟩
  | true =>
    have Hf := Lib.hid (show hasRelB s r = inR r 0 ((s.length : Int) - 1) by unfold hasRelB; rw [hs]; rfl)
    go_enter Tryz.func116, Tryz.ntmps116
    go_wp2_with (first
      | (go_at_call 89; refine (implIsSchema_any _ s f _ h).mono ?_; rintro e w' ⟨rfl, rfl⟩)
      | (go_at_call 119; refine (f119_any _ _ _ _).mono ?_; rintro e w' ⟨rfl, rfl⟩))
    go_ret
    exact ⟨ret_bool (by rw [Hf.out]), rfl⟩

set_option maxRecDepth 100000 in
set_option maxHeartbeats 800000 in
theorem implIsFact_any (sv : Value) (s : List Int) (fs : List Nat) (x : FactD) (vv : Value) (fv : List Nat) (w : World) (hs : ints w sv s fs) (hx : ints w vv x.vals fv) :
    Calls Tryz.prog 86 #[sv, .agg #[.int .i64 x.rel, vv]] w fun e w' => e = .returned (.bool (factB s x)) ∧ Below w.heap.size w w' := by
  obtain ⟨rel, vals⟩ := x
  obtain ⟨a, cap, rfl⟩ := slR.form hs
  obtain ⟨b, cap', rfl⟩ := slR.form hx
  have hla := slR.le_max hs
  have hlb := slR.le_max hx
  have hw1 : IntKind.i64.wrap ((s.length : Int) - 1) = (s.length : Int) - 1 := IntWalk.i64_in _ (by omega)
  have hs' := fun o => hs.al o
  have hx' := fun o => hx.al o
  cases hr : hasRelB s rel with
  | false =>
    have Hf := Lib.hid (show factB s ⟨rel, vals⟩ = false by unfold factB; rw [hr]; rfl)
    go_enter Tryz.func86, Tryz.ntmps86
    go_wp2
    go_quiet ((first
        | (go_at_call 116; exact qEq (retB (hasRel_any _ s fs _ _ ((hs' _).dn _)) hr))
        | (go_at_call 120; exact qEq (areValues_any _ vals fv _ ((hx' _).dn _)))))
    go_wp2
    go_ret
    exact ⟨ret_bool (by rw [Hf.out]), by repeat (first | exact Below.refl _ _ | refine bdn ?_ | refine ba ?_)⟩
  | true =>
    obtain ⟨_, _, k, rfl, hk⟩ := hasRel_nat hr
    have Hr := Lib.hid hr
    obtain ⟨g, rfl, hc, _, _, hfg⟩ := hs.get k hk
    have Hfg := Lib.hid hfg
    have hca := fun o => cell_al hc o
    clear hfg hc
    have hk0 : (0 : Int) ≤ (k : Int) := Int.natCast_nonneg _
    have hk1 : (k : Int) < (s.length : Int) := by omega
    by_cases hlen : (vals.length : Int) = s[k]
    · have Hf := Lib.hid (show factB s ⟨k, vals⟩ = !(vals.any fun n => !isVal n) by unfold factB; rw [hr, arity_nat hk, decide_eq_true hlen]; simp)
      have hd : ((vals.length : Int) == s[k]) = true := by simp [hlen]
      clear hlen
      go_enter Tryz.func86, Tryz.ntmps86
      go_wp2
      go_quiet ((first
        | (go_at_call 116; exact qEq (retB (hasRel_any _ s fs _ _ ((hs' _).dn _)) hr))
        | (go_at_call 120; exact qEq (areValues_any _ vals fv _ ((hx' _).dn _)))))
      go_wp2
      go_ret
      exact ⟨ret_bool (by rw [Hf.out]), by repeat (first | exact Below.refl _ _ | refine bdn ?_ | refine ba ?_)⟩
    · have Hf := Lib.hid (show factB s ⟨k, vals⟩ = false by unfold factB; rw [hr, arity_nat hk, decide_eq_false hlen]; simp)
      have hd : ((vals.length : Int) == s[k]) = false := by simp [hlen]
      clear hlen
      go_enter Tryz.func86, Tryz.ntmps86
      go_wp2
      go_quiet ((first
        | (go_at_call 116; exact qEq (retB (hasRel_any _ s fs _ _ ((hs' _).dn _)) hr))
        | (go_at_call 120; exact qEq (areValues_any _ vals fv _ ((hx' _).dn _)))))
      go_wp2
      go_ret
      exact ⟨ret_bool (by rw [Hf.out]), by repeat (first | exact Below.refl _ _ | refine bdn ?_ | refine ba ?_)⟩
set_option maxRecDepth 100000 in
set_option maxHeartbeats 800000 in
theorem specIsFact_any (sv : Value) (s : List Int) (fs : List Nat) (x : FactD) (vv : Value) (fv : List Nat) (w : World) (hs : ints w sv s fs) (hx : ints w vv x.vals fv) :
    Calls Tryz.prog 85 #[sv, .agg #[.int .i64 x.rel, vv]] w fun e w' => e = .returned (.bool (factB s x)) ∧ Below w.heap.size w w' := by
  obtain ⟨rel, vals⟩ := x
  obtain ⟨a, cap, rfl⟩ := slR.form hs
  obtain ⟨b, cap', rfl⟩ := slR.form hx
  have hla := slR.le_max hs
  have hlb := slR.le_max hx
  have hw1 : IntKind.i64.wrap ((s.length : Int) - 1) = (s.length : Int) - 1 := IntWalk.i64_in _ (by omega)
  have hs' := fun o => hs.al o
  have hx' := fun o => hx.al o
  cases hsc : schemaB s with
  | false =>
    have Hf := Lib.hid (show factB s ⟨rel, vals⟩ = false by unfold factB hasRelB; rw [hsc]; rfl)
    go_enter Tryz.func85, Tryz.ntmps85
    go_wp2
    go_quiet ((first
        | (go_at_call 90; exact qEq (retB (specIsSchema_any _ s fs _ ((hs' _).dn _)) hsc))
        | (go_at_call 98; exact qEq (retB (f98_any _ _ _ _) hin))))
    go_wp2
    go_ret
    exact ⟨ret_bool (by rw [Hf.out]), by repeat (first | exact Below.refl _ _ | refine bdn ?_ | refine ba ?_)⟩
  | true =>
    cases hin : inR rel 0 ((s.length : Int) - 1) with
    | false =>
      have Hf := Lib.hid (show factB s ⟨rel, vals⟩ = false by unfold factB hasRelB; rw [hsc, hin]; rfl)
      go_enter Tryz.func85, Tryz.ntmps85
      go_wp2
      go_quiet ((first
        | (go_at_call 90; exact qEq (retB (specIsSchema_any _ s fs _ ((hs' _).dn _)) hsc))
        | (go_at_call 98; exact qEq (retB (f98_any _ _ _ _) hin))))
      go_wp2
      go_ret
      exact ⟨ret_bool (by rw [Hf.out]), by repeat (first | exact Below.refl _ _ | refine bdn ?_ | refine ba ?_)⟩
    | true =>
      have hr : hasRelB s rel = true := by unfold hasRelB; rw [hsc, hin]; rfl
      obtain ⟨_, _, k, rfl, hk⟩ := hasRel_nat hr
      obtain ⟨g, rfl, hc, _, _, hfg⟩ := hs.get k hk
      have Hfg := Lib.hid hfg
      have Hr := Lib.hid hr
      have hca := fun o => cell_al hc o
      clear hfg hr hc
      have hk0 : (0 : Int) ≤ (k : Int) := Int.natCast_nonneg _
      have hk1 : (k : Int) < (s.length : Int) := by omega
      by_cases hlen : (vals.length : Int) = s[k]
      · have Hf := Lib.hid (show factB s ⟨k, vals⟩ = !(vals.any fun n => !isVal n) by unfold factB; rw [Hr.out, arity_nat hk, decide_eq_true hlen]; simp)
        have hd2 : ((vals.length : Int) != s[k]) = false := by simp [hlen]
        clear hlen
        go_enter Tryz.func85, Tryz.ntmps85
        go_wp2
        go_quiet ((first
        | (go_at_call 90; exact qEq (retB (specIsSchema_any _ s fs _ ((hs' _).dn _)) hsc))
        | (go_at_call 98; exact qEq (retB (f98_any _ _ _ _) hin))))
        go_wp2
        go_loop [5] (fun i => ∃ k : Nat, i = .int .i64 k ∧ k ≤ vals.length ∧ Hid (∀ j (hj : j < vals.length), j < k → (!isVal vals[j]) = false)) (fun i => vals.length - (intOf i).toNat)
        case atStart => exact ⟨0, rfl, Nat.zero_le _, Lib.hid (fun j hj h0 => by omega)⟩
        case round =>
          obtain ⟨j, rfl, hj, HN⟩ := hrel
          by_cases hlt : j < vals.length
          · obtain ⟨g2, rfl, hc2, _, _, _⟩ := (hx' (.cells #[.int .i64 (k : Int), .slice b vals.length cap'] 83)).get j hlt
            cases hp : isVal vals[j] with
            | false =>
              have hq : inR vals[j] 0 9 = false := hp
              have Hf2 := Lib.hid (Hf.out.trans (show (!(vals.any fun n => !isVal n)) = false by rw [any_true_of (p := fun n => !isVal n) hlt (by simp [hp])]; rfl))
              go_wp2_with (go_at_call 98; refine (f98_any _ _ _ _).mono ?_; rintro e w' ⟨rfl, rfl⟩)
              go_ret
              exact ⟨ret_bool (by rw [Hf2.out]), by repeat (first | exact Below.refl _ _ | refine bdn ?_ | refine ba ?_)⟩
            | true =>
              have hq : inR vals[j] 0 9 = true := hp
              have HN2 := Lib.hid (none_step (p := fun n => !isVal n) HN.out hlt (by simp [hp]))
              go_wp2_with (go_at_call 98; refine (f98_any _ _ _ _).mono ?_; rintro e w' ⟨rfl, rfl⟩)
              go_round
              case rel => exact ⟨j + 1, by go_num, by omega, HN2⟩
              case measure => simp [intOf]; omega
          · have hjl : j = vals.length := by omega
            have Hf2 := Lib.hid (Hf.out.trans (show (!(vals.any fun n => !isVal n)) = true by rw [any_false_of (p := fun n => !isVal n) (fun i hi => HN.out i hi (by omega))]; rfl))
            go_wp2
            go_ret
            exact ⟨ret_bool (by rw [Hf2.out]), by repeat (first | exact Below.refl _ _ | refine bdn ?_ | refine ba ?_)⟩
      · have Hf := Lib.hid (show factB s ⟨k, vals⟩ = false by unfold factB; rw [Hr.out, arity_nat hk, decide_eq_false hlen]; simp)
        have hd2 : ((vals.length : Int) != s[k]) = true := by simp [hlen]
        clear hlen
        go_enter Tryz.func85, Tryz.ntmps85
        go_wp2
        go_quiet ((first
        | (go_at_call 90; exact qEq (retB (specIsSchema_any _ s fs _ ((hs' _).dn _)) hsc))
        | (go_at_call 98; exact qEq (retB (f98_any _ _ _ _) hin))))
        go_wp2
        go_ret
        exact ⟨ret_bool (by rw [Hf.out]), by repeat (first | exact Below.refl _ _ | refine bdn ?_ | refine ba ?_)⟩
set_option maxRecDepth 100000 in
set_option maxHeartbeats 800000 in
theorem implIsAtom_any (sv : Value) (s : List Int) (fs : List Nat) (x : AtomD) (vv : Value) (fv : List Nat) (w : World) (hs : ints w sv s fs) (hx : ints w vv x.terms fv) :
    Calls Tryz.prog 61 #[sv, .agg #[.int .i64 x.rel, vv]] w fun e w' => e = .returned (.bool (atomB s x)) ∧ Below w.heap.size w w' := by
  obtain ⟨rel, vals⟩ := x
  obtain ⟨a, cap, rfl⟩ := slR.form hs
  obtain ⟨b, cap', rfl⟩ := slR.form hx
  have hla := slR.le_max hs
  have hlb := slR.le_max hx
  have hw1 : IntKind.i64.wrap ((s.length : Int) - 1) = (s.length : Int) - 1 := IntWalk.i64_in _ (by omega)
  have hs' := fun o => hs.al o
  have hx' := fun o => hx.al o
  cases hr : hasRelB s rel with
  | false =>
    have Hf := Lib.hid (show atomB s ⟨rel, vals⟩ = false by unfold atomB; rw [hr]; rfl)
    go_enter Tryz.func61, Tryz.ntmps61
    go_wp2
    go_quiet ((first
        | (go_at_call 116; exact qEq (retB (hasRel_any _ s fs _ _ ((hs' _).dn _)) hr))
        | (go_at_call 150; exact qEq (areTerms_any _ vals fv _ ((hx' _).dn _)))))
    go_wp2
    go_ret
    exact ⟨ret_bool (by rw [Hf.out]), by repeat (first | exact Below.refl _ _ | refine bdn ?_ | refine ba ?_)⟩
  | true =>
    obtain ⟨_, _, k, rfl, hk⟩ := hasRel_nat hr
    have Hr := Lib.hid hr
    obtain ⟨g, rfl, hc, _, _, hfg⟩ := hs.get k hk
    have Hfg := Lib.hid hfg
    have hca := fun o => cell_al hc o
    clear hfg hc
    have hk0 : (0 : Int) ≤ (k : Int) := Int.natCast_nonneg _
    have hk1 : (k : Int) < (s.length : Int) := by omega
    by_cases hlen : (vals.length : Int) = s[k]
    · have Hf := Lib.hid (show atomB s ⟨k, vals⟩ = !(vals.any fun n => !isTermB n) by unfold atomB; rw [hr, arity_nat hk, decide_eq_true hlen]; simp)
      have hd : ((vals.length : Int) == s[k]) = true := by simp [hlen]
      clear hlen
      go_enter Tryz.func61, Tryz.ntmps61
      go_wp2
      go_quiet ((first
        | (go_at_call 116; exact qEq (retB (hasRel_any _ s fs _ _ ((hs' _).dn _)) hr))
        | (go_at_call 150; exact qEq (areTerms_any _ vals fv _ ((hx' _).dn _)))))
      go_wp2
      go_ret
      exact ⟨ret_bool (by rw [Hf.out]), by repeat (first | exact Below.refl _ _ | refine bdn ?_ | refine ba ?_)⟩
    · have Hf := Lib.hid (show atomB s ⟨k, vals⟩ = false by unfold atomB; rw [hr, arity_nat hk, decide_eq_false hlen]; simp)
      have hd : ((vals.length : Int) == s[k]) = false := by simp [hlen]
      clear hlen
      go_enter Tryz.func61, Tryz.ntmps61
      go_wp2
      go_quiet ((first
        | (go_at_call 116; exact qEq (retB (hasRel_any _ s fs _ _ ((hs' _).dn _)) hr))
        | (go_at_call 150; exact qEq (areTerms_any _ vals fv _ ((hx' _).dn _)))))
      go_wp2
      go_ret
      exact ⟨ret_bool (by rw [Hf.out]), by repeat (first | exact Below.refl _ _ | refine bdn ?_ | refine ba ?_)⟩
set_option maxRecDepth 100000 in
set_option maxHeartbeats 800000 in
theorem specIsAtom_any (sv : Value) (s : List Int) (fs : List Nat) (x : AtomD) (vv : Value) (fv : List Nat) (w : World) (hs : ints w sv s fs) (hx : ints w vv x.terms fv) :
    Calls Tryz.prog 62 #[sv, .agg #[.int .i64 x.rel, vv]] w fun e w' => e = .returned (.bool (atomB s x)) ∧ Below w.heap.size w w' := by
  obtain ⟨rel, vals⟩ := x
  obtain ⟨a, cap, rfl⟩ := slR.form hs
  obtain ⟨b, cap', rfl⟩ := slR.form hx
  have hla := slR.le_max hs
  have hlb := slR.le_max hx
  have hw1 : IntKind.i64.wrap ((s.length : Int) - 1) = (s.length : Int) - 1 := IntWalk.i64_in _ (by omega)
  have hs' := fun o => hs.al o
  have hx' := fun o => hx.al o
  cases hsc : schemaB s with
  | false =>
    have Hf := Lib.hid (show atomB s ⟨rel, vals⟩ = false by unfold atomB hasRelB; rw [hsc]; rfl)
    go_enter Tryz.func62, Tryz.ntmps62
    go_wp2
    go_quiet ((first
        | (go_at_call 90; exact qEq (retB (specIsSchema_any _ s fs _ ((hs' _).dn _)) hsc))
        | (go_at_call 98; exact qEq (retB (f98_any _ _ _ _) hin))))
    go_wp2
    go_ret
    exact ⟨ret_bool (by rw [Hf.out]), by repeat (first | exact Below.refl _ _ | refine bdn ?_ | refine ba ?_)⟩
  | true =>
    cases hin : inR rel 0 ((s.length : Int) - 1) with
    | false =>
      have Hf := Lib.hid (show atomB s ⟨rel, vals⟩ = false by unfold atomB hasRelB; rw [hsc, hin]; rfl)
      go_enter Tryz.func62, Tryz.ntmps62
      go_wp2
      go_quiet ((first
        | (go_at_call 90; exact qEq (retB (specIsSchema_any _ s fs _ ((hs' _).dn _)) hsc))
        | (go_at_call 98; exact qEq (retB (f98_any _ _ _ _) hin))))
      go_wp2
      go_ret
      exact ⟨ret_bool (by rw [Hf.out]), by repeat (first | exact Below.refl _ _ | refine bdn ?_ | refine ba ?_)⟩
    | true =>
      have hr : hasRelB s rel = true := by unfold hasRelB; rw [hsc, hin]; rfl
      obtain ⟨_, _, k, rfl, hk⟩ := hasRel_nat hr
      obtain ⟨g, rfl, hc, _, _, hfg⟩ := hs.get k hk
      have Hfg := Lib.hid hfg
      have Hr := Lib.hid hr
      have hca := fun o => cell_al hc o
      clear hfg hr hc
      have hk0 : (0 : Int) ≤ (k : Int) := Int.natCast_nonneg _
      have hk1 : (k : Int) < (s.length : Int) := by omega
      by_cases hlen : (vals.length : Int) = s[k]
      · have Hf := Lib.hid (show atomB s ⟨k, vals⟩ = !(vals.any fun n => !isTermB n) by unfold atomB; rw [Hr.out, arity_nat hk, decide_eq_true hlen]; simp)
        have hd2 : ((vals.length : Int) != s[k]) = false := by simp [hlen]
        clear hlen
        go_enter Tryz.func62, Tryz.ntmps62
        go_wp2
        go_quiet ((first
        | (go_at_call 90; exact qEq (retB (specIsSchema_any _ s fs _ ((hs' _).dn _)) hsc))
        | (go_at_call 98; exact qEq (retB (f98_any _ _ _ _) hin))))
        go_wp2
        go_loop [5] (fun i => ∃ k : Nat, i = .int .i64 k ∧ k ≤ vals.length ∧ Hid (∀ j (hj : j < vals.length), j < k → (!isTermB vals[j]) = false)) (fun i => vals.length - (intOf i).toNat)
        case atStart => exact ⟨0, rfl, Nat.zero_le _, Lib.hid (fun j hj h0 => by omega)⟩
        case round =>
          obtain ⟨j, rfl, hj, HN⟩ := hrel
          by_cases hlt : j < vals.length
          · obtain ⟨g2, rfl, hc2, _, _, _⟩ := (hx' (.cells #[.int .i64 (k : Int), .slice b vals.length cap'] 73)).get j hlt
            cases hp : isTermB vals[j] with
            | false =>
              have hq := hp
              have Hf2 := Lib.hid (Hf.out.trans (show (!(vals.any fun n => !isTermB n)) = false by rw [any_true_of (p := fun n => !isTermB n) hlt (by simp [hp])]; rfl))
              go_wp2_with (go_at_call 151; refine (f151_any _ _).mono ?_; rintro e w' ⟨rfl, rfl⟩)
              go_ret
              exact ⟨ret_bool (by rw [Hf2.out]), by repeat (first | exact Below.refl _ _ | refine bdn ?_ | refine ba ?_)⟩
            | true =>
              have hq := hp
              have HN2 := Lib.hid (none_step (p := fun n => !isTermB n) HN.out hlt (by simp [hp]))
              go_wp2_with (go_at_call 151; refine (f151_any _ _).mono ?_; rintro e w' ⟨rfl, rfl⟩)
              go_round
              case rel => exact ⟨j + 1, by go_num, by omega, HN2⟩
              case measure => simp [intOf]; omega
          · have hjl : j = vals.length := by omega
            have Hf2 := Lib.hid (Hf.out.trans (show (!(vals.any fun n => !isTermB n)) = true by rw [any_false_of (p := fun n => !isTermB n) (fun i hi => HN.out i hi (by omega))]; rfl))
            go_wp2
            go_ret
            exact ⟨ret_bool (by rw [Hf2.out]), by repeat (first | exact Below.refl _ _ | refine bdn ?_ | refine ba ?_)⟩
      · have Hf := Lib.hid (show atomB s ⟨k, vals⟩ = false by unfold atomB; rw [Hr.out, arity_nat hk, decide_eq_false hlen]; simp)
        have hd2 : ((vals.length : Int) != s[k]) = true := by simp [hlen]
        clear hlen
        go_enter Tryz.func62, Tryz.ntmps62
        go_wp2
        go_quiet ((first
        | (go_at_call 90; exact qEq (retB (specIsSchema_any _ s fs _ ((hs' _).dn _)) hsc))
        | (go_at_call 98; exact qEq (retB (f98_any _ _ _ _) hin))))
        go_wp2
        go_ret
        exact ⟨ret_bool (by rw [Hf.out]), by repeat (first | exact Below.refl _ _ | refine bdn ?_ | refine ba ?_)⟩
end Go.Proofs.YtojjojcmemifhaaGreatDoor
/- Regions that draw their order, whose operations only read what lay there before and whose callees make memory but turn nothing of the old: ONE walk in the order of the text. Over any program; no condition. -/
namespace Go.Proofs.YtojjojcmemifhaaGreatDoor
open Go.RowKit
set_option linter.unusedVariables false
set_option linter.unusedSimpArgs false
/-- A world in which all that lay in w lies as it did. -/
structure Lat (w : World) where
  wd : World
  ok : Below w.heap.size w wd
instance (w : World) : Nonempty (Lat w) := ⟨⟨w, Below.refl _ _⟩⟩
section
variable {P : Program}
theorem wp_region_lat {id : Nat} {Q : Exit → Act → World → Prop} {a : Act} (w : World) {l : List Oper} (hm : P.follows .mixedOrders = true) (hB : Region.lexB .any l.toArray = true)
    (h : wpQuiet P l.toArray (fun w' => ∃ x : Lat w, w' = x.wd) (fun a' => ∀ w', (∃ x : Lat w, w' = x.wd) → Q .normal a' w') l a) : (Code.region id l.toArray true).wp P Q a w :=
  wp_region_quiet (C := fun w' => ∃ x : Lat w, w' = x.wd) hm hB ⟨⟨w.drew, (Below.refl _ _).drew⟩, rfl⟩ (by simpa using h)
theorem Lat.of {w : World} {x : Lat w} {f : FuncId} {args : Array Value} {v : Value} (h : Calls P f args x.wd fun e w' => e = .returned v ∧ Below x.wd.heap.size x.wd w') :
    Calls P f args x.wd fun e w'' => e = .returned v ∧ ∃ y : Lat w, w'' = y.wd := h.mono fun _ w' ⟨he, hw⟩ => ⟨he, ⟨w', bt x.ok hw⟩, rfl⟩
theorem Lat.eq {w : World} {x : Lat w} {f : FuncId} {args : Array Value} {v : Value} (h : Calls P f args x.wd fun e w' => e = .returned v ∧ x.wd = w') :
    Calls P f args x.wd fun e w'' => e = .returned v ∧ ∃ y : Lat w, w'' = y.wd := h.mono fun _ w' ⟨he, hw⟩ => ⟨he, x, hw.symm⟩
theorem Lat.qt {w : World} {x : Lat w} {f : FuncId} {args : Array Value} {v : Value} (h : Calls P f args x.wd fun e w' => e = .returned v ∧ Qt x.wd w') :
    Calls P f args x.wd fun e w'' => e = .returned v ∧ ∃ y : Lat w, w'' = y.wd := h.mono fun _ w' ⟨he, hw⟩ => ⟨he, ⟨w', bqt x.ok hw⟩, rfl⟩
theorem Lat.cell {w : World} (x : Lat w) {a : Addr} {u : Value} (h : w.cell? a = some u) : x.wd.cell? a = some u := cell_below h x.ok
theorem retBB {f : FuncId} {args : Array Value} {w : World} {b c : Bool} {N : Nat} (h : Calls P f args w fun e w' => e = .returned (.bool b) ∧ Below N w w') (hb : b = c) : Calls P f args w fun e w' => e = .returned (.bool c) ∧ Below N w w' := hb ▸ h
end
end Go.Proofs.YtojjojcmemifhaaGreatDoor
/- FormatFact, FormatAccess and FormatAtom, of the program and of the reference. Condition: what the library's table reads as. -/
namespace Go.Proofs.YtojjojcmemifhaaGreatDoor
open Go.RowKit
set_option linter.unusedVariables false
set_option linter.unusedSimpArgs false
theorem retStr {P : Program} {f : FuncId} {args : Array Value} {w : World} {a b : ByteArray} {Q : World → Prop} (h : Calls P f args w fun e w' => e = .returned (.string a) ∧ Q w') (hb : a = b) : Calls P f args w fun e w' => e = .returned (.string b) ∧ Q w' := hb ▸ h
theorem inR_i64 {n lo hi : Int} (h : inR n lo hi = true) (h1 : -9223372036854775808 ≤ lo) (h2 : hi ≤ 9223372036854775807) : I64 n := by have := inR_true h; exact ⟨by omega, by omega⟩
theorem isRel_any (r : Int) (w : World) : Calls Tryz.prog 103 #[.int .i64 r] w fun e w' => e = .returned (.bool (inR r 0 2)) ∧ w = w' := by
  go_enter Tryz.func103, Tryz.ntmps103
  go_wp2_with (go_at_call 119; refine (f119_any _ _ _ _).mono ?_; rintro e w' ⟨rfl, rfl⟩)
  go_ret
  exact ⟨rfl, rfl⟩
def factFB (x : FactD) : Bool := inR x.rel 0 2 && inR (x.vals.length : Int) 1 3 && !(x.vals.any fun n => !isVal n)
def factFS (x : FactD) : List UInt8 := if factFB x then 114 :: (Lib.itoa x.rel ++ (40 :: (listS x.vals [44] ++ [41]))) else []
theorem factFS_no {x : FactD} (h : factFB x = false) : factFS x = [] := by unfold factFS; rw [h]; rfl
theorem factFS_yes {x : FactD} (h : factFB x = true) : factFS x = 114 :: (Lib.itoa x.rel ++ (40 :: (listS x.vals [44] ++ [41]))) := by unfold factFS; rw [h]; rfl
set_option maxRecDepth 100000 in
set_option maxHeartbeats 1600000 in
theorem specFormatFact_any (x : FactD) (v : Value) (fv : List Nat) (w : World) (hx : ints w v x.vals fv) :
    Calls Tryz.prog 84 #[.agg #[.int .i64 x.rel, v]] w fun e w' => e = .returned (.string ⟨(factFS x).toArray⟩) ∧ Below w.heap.size w w' := by
  obtain ⟨r, vals⟩ := x
  obtain ⟨b, cap, rfl⟩ := slR.form hx
  have hla := slR.le_max hx
  have hI : ∀ y ∈ vals, I64 y := by obtain ⟨o, _, _, hw⟩ := row_of_ints hx; exact hw
  have HI := Lib.hid hI
  clear hI
  have hx' := fun o => hx.al o
  have Hd := Lib.hid (show factFB ⟨r, vals⟩ = (inR r 0 2 && inR (vals.length : Int) 1 3 && !(vals.any fun n => !isVal n)) from rfl)
  cases hr : inR r 0 2 with
  | false =>
    have Hf := Lib.hid (factFS_no (x := ⟨r, vals⟩) (by rw [Hd.out, hr]; rfl))
    go_enter Tryz.func84, Tryz.ntmps84
    go_wp2_with (go_at_call 98; refine (f98_any _ _ _ _).mono ?_; rintro e w' ⟨rfl, rfl⟩)
    go_ret
    exact ⟨ret_str' (by rw [Hf.out]), ba (Below.refl _ _)⟩
  | true =>
    have hIr := inR_i64 hr (by omega) (by omega)
    cases hl : inR (vals.length : Int) 1 3
    case false =>
      have Hf := Lib.hid (factFS_no (x := ⟨r, vals⟩) (by rw [Hd.out, hr, hl]; rfl))
      go_enter Tryz.func84, Tryz.ntmps84
      go_wp2_with (first | (go_at_call 98; refine (f98_any _ _ _ _).mono ?_; rintro e w' ⟨rfl, rfl⟩) | (go_at_call 98; refine (f98_any _ _ _ _).mono ?_; rintro e w' ⟨rfl, rfl⟩))
      go_ret
      exact ⟨ret_str' (by rw [Hf.out]), ba (Below.refl _ _)⟩
    have hln : vals.length ≤ 3 := by have := inR_true hl; omega
    have hn : vals.length ≤ 1048576 := by omega
    have Hd2 := Lib.hid (show factFB ⟨r, vals⟩ = !(vals.any fun n => !isVal n) by rw [Hd.out, hr, hl]; rfl)
    go_enter Tryz.func84, Tryz.ntmps84
    go_wp2_with (first | (go_at_call 98; refine (f98_any _ _ _ _).mono ?_; rintro e w' ⟨rfl, rfl⟩) | (go_at_call 98; refine (f98_any _ _ _ _).mono ?_; rintro e w' ⟨rfl, rfl⟩))
    go_loop [3] (fun i => ∃ k : Nat, i = .int .i64 k ∧ k ≤ vals.length ∧ Hid (∀ j (hj : j < vals.length), j < k → (!isVal vals[j]) = false)) (fun i => vals.length - (intOf i).toNat)
    case atStart => exact ⟨0, rfl, Nat.zero_le _, Lib.hid (fun j hj h0 => by omega)⟩
    case round =>
      obtain ⟨j, rfl, hj, HN⟩ := hrel
      by_cases hlt : j < vals.length
      · obtain ⟨g2, rfl, hc2, _, _, _⟩ := (hx' (.cells #[.int .i64 r, .slice b vals.length cap] 83)).get j hlt
        cases hp : isVal vals[j] with
        | false =>
          have hq : inR vals[j] 0 9 = false := hp
          have Hf := Lib.hid (factFS_no (x := ⟨r, vals⟩) (by rw [Hd2.out, any_true_of (p := fun n => !isVal n) hlt (by simp [hp])]; rfl))
          go_wp2_with (go_at_call 98; refine (retB (f98_any _ _ _ _) hq).mono ?_; rintro e w' ⟨rfl, rfl⟩)
          go_ret
          exact ⟨ret_str' (by rw [Hf.out]), ba (Below.refl _ _)⟩
        | true =>
          have hq : inR vals[j] 0 9 = true := hp
          have HN2 := Lib.hid (none_step (p := fun n => !isVal n) HN.out hlt (by simp [hp]))
          go_wp2_with (go_at_call 98; refine (retB (f98_any _ _ _ _) hq).mono ?_; rintro e w' ⟨rfl, rfl⟩)
          go_round
          case rel => exact ⟨j + 1, by go_num, by omega, HN2⟩
          case measure => simp [intOf]; omega
      · have hjl : j = vals.length := by omega
        have Hf := Lib.hid (factFS_yes (x := ⟨r, vals⟩) (by rw [Hd2.out, any_false_of (p := fun n => !isVal n) (fun i hi => HN.out i hi (by omega))]; rfl))
        clear hjl
        have Lb0 : ∀ y : Lat (w.alloc (.cells #[.int .i64 r, .slice b vals.length cap] 83)), y.wd.cell? ⟨w.heap.size, 0, none⟩ = some (.int .i64 r) := fun y => y.cell (cell_new w _ _ 0 _ rfl)
        have Lb1 : ∀ y : Lat (w.alloc (.cells #[.int .i64 r, .slice b vals.length cap] 83)), y.wd.cell? ⟨w.heap.size, 1, none⟩ = some (.slice b vals.length cap) := fun y => y.cell (cell_new w _ _ 1 _ rfl)
        have hxL : ∀ y : Lat (w.alloc (.cells #[.int .i64 r, .slice b vals.length cap] 83)), ints y.wd (.slice b vals.length cap) vals fv := fun y => (hx.al _).below' y.ok
        have hil := itoa_le hIr
        have hll : (listS vals [44]).length ≤ 100 := by
          have h1 := listS_len (l := vals) [44] HI.out
          have h2 : vals.length * (21 + [(44 : UInt8)].length) ≤ 3 * 22 := Nat.mul_le_mul (by omega) (by simp)
          omega
        go_wp2_with fail
        refine wp_region_lat (w.alloc (.cells #[.int .i64 r, .slice b vals.length cap] 83)) (by kernel_rfl) (by kernel_rfl) ?_
        repeat (go_big_quiet_step ((first
          | (go_at_call 115; exact Lat.of (retStr (specFormatInt_any r _ hIr) (numS_data r)))
          | (go_at_call 114; exact Lat.of (l2List_any _ vals fv _ (hxL _) hn)))))
        refine wpQuiet_nil ?_
        intro _ hw'
        obtain ⟨x1, hw''⟩ := hw'
        subst hw''
        have hbx := bt (ba (Below.refl _ _)) x1.ok
        clear Lb0 Lb1 hxL
        go_wp2
        go_ret
        exact ⟨ret_str' (by rw [Hf.out]; apply ByteArray.ext; simp), hbx⟩
set_option maxRecDepth 100000 in
set_option maxHeartbeats 1600000 in
theorem implFormatFact_any (x : FactD) (v : Value) (fv : List Nat) (w : World) (hx : ints w v x.vals fv) (hT : Lib.TabBelow Tryz.prog w.heap.size w "internal/strconv.uint64pow10" .u64 Lib.pow10Tab) :
    Calls Tryz.prog 78 #[.agg #[.int .i64 x.rel, v]] w fun e w' => e = .returned (.string ⟨(factFS x).toArray⟩) ∧ Below w.heap.size w w' := by
  obtain ⟨r, vals⟩ := x
  obtain ⟨b, cap, rfl⟩ := slR.form hx
  have hla := slR.le_max hx
  have hI : ∀ y ∈ vals, I64 y := by obtain ⟨o, _, _, hw⟩ := row_of_ints hx; exact hw
  have HI := Lib.hid hI
  clear hI
  have hx' := fun o => hx.al o
  have Hd := Lib.hid (show factFB ⟨r, vals⟩ = (inR r 0 2 && inR (vals.length : Int) 1 3 && !(vals.any fun n => !isVal n)) from rfl)
  cases hr : inR r 0 2 with
  | false =>
    have Hf := Lib.hid (factFS_no (x := ⟨r, vals⟩) (by rw [Hd.out, hr]; rfl))
    go_enter Tryz.func78, Tryz.ntmps78
    go_wp2_with (go_at_call 103; refine (isRel_any _ _).mono ?_; rintro e w' ⟨rfl, rfl⟩)
    go_ret
    exact ⟨ret_str' (by rw [Hf.out]), ba (Below.refl _ _)⟩
  | true =>
    have hIr := inR_i64 hr (by omega) (by omega)
    cases hl : inR (vals.length : Int) 1 3
    case false =>
      have Hf := Lib.hid (factFS_no (x := ⟨r, vals⟩) (by rw [Hd.out, hr, hl]; rfl))
      go_enter Tryz.func78, Tryz.ntmps78
      go_wp2_with (first | (go_at_call 103; refine (isRel_any _ _).mono ?_; rintro e w' ⟨rfl, rfl⟩) | (go_at_call 119; refine (f119_any _ _ _ _).mono ?_; rintro e w' ⟨rfl, rfl⟩))
      go_ret
      exact ⟨ret_str' (by rw [Hf.out]), ba (Below.refl _ _)⟩
    have hln : vals.length ≤ 3 := by have := inR_true hl; omega
    have hn : vals.length ≤ 1048576 := by omega
    have Hd2 := Lib.hid (show factFB ⟨r, vals⟩ = !(vals.any fun n => !isVal n) by rw [Hd.out, hr, hl]; rfl)
    cases ha : !(vals.any fun n => !isVal n) with
    | false =>
      have Hf := Lib.hid (factFS_no (x := ⟨r, vals⟩) (by rw [Hd2.out, ha]))
      go_enter Tryz.func78, Tryz.ntmps78
      go_wp2_with (first | (go_at_call 103; refine (isRel_any _ _).mono ?_; rintro e w' ⟨rfl, rfl⟩) | (go_at_call 119; refine (f119_any _ _ _ _).mono ?_; rintro e w' ⟨rfl, rfl⟩) | (go_at_call 120; refine (retB (areValues_any _ vals fv _ (hx' _)) ha).mono ?_; rintro e w' ⟨rfl, rfl⟩))
      go_ret
      exact ⟨ret_str' (by rw [Hf.out]), ba (Below.refl _ _)⟩
    | true =>
      have Hf := Lib.hid (factFS_yes (x := ⟨r, vals⟩) (by rw [Hd2.out, ha]))
      go_enter Tryz.func78, Tryz.ntmps78
      go_wp2_with (first | (go_at_call 103; refine (isRel_any _ _).mono ?_; rintro e w' ⟨rfl, rfl⟩) | (go_at_call 119; refine (f119_any _ _ _ _).mono ?_; rintro e w' ⟨rfl, rfl⟩) | (go_at_call 120; refine (retB (areValues_any _ vals fv _ (hx' _)) ha).mono ?_; rintro e w' ⟨rfl, rfl⟩))
      have Lb0 : ∀ y : Lat (w.alloc (.cells #[.int .i64 r, .slice b vals.length cap] 83)), y.wd.cell? ⟨w.heap.size, 0, none⟩ = some (.int .i64 r) := fun y => y.cell (cell_new w _ _ 0 _ rfl)
      have Lb1 : ∀ y : Lat (w.alloc (.cells #[.int .i64 r, .slice b vals.length cap] 83)), y.wd.cell? ⟨w.heap.size, 1, none⟩ = some (.slice b vals.length cap) := fun y => y.cell (cell_new w _ _ 1 _ rfl)
      have hxL : ∀ y : Lat (w.alloc (.cells #[.int .i64 r, .slice b vals.length cap] 83)), ints y.wd (.slice b vals.length cap) vals fv := fun y => (hx.al _).below' y.ok
      have hTL : ∀ y : Lat (w.alloc (.cells #[.int .i64 r, .slice b vals.length cap] 83)), Lib.TabBelow Tryz.prog y.wd.heap.size y.wd "internal/strconv.uint64pow10" .u64 Lib.pow10Tab := fun y => Tab.on hT (bt (ba (Below.refl _ _)) y.ok)
      have hil := itoa_le hIr
      have hll : (listS vals [44]).length ≤ 100 := by
        have h1 := listS_len (l := vals) [44] HI.out
        have h2 : vals.length * (21 + [(44 : UInt8)].length) ≤ 3 * 22 := Nat.mul_le_mul (by omega) (by simp)
        omega
      go_wp2_with fail
      refine wp_region_lat (w.alloc (.cells #[.int .i64 r, .slice b vals.length cap] 83)) (by kernel_rfl) (by kernel_rfl) ?_
      repeat (go_big_quiet_step ((first
        | (go_at_call 106; exact Lat.of (retStr (implFormatInt_any r _ hIr ((hTL _) _ (Below.refl _ _))) (numS_data r)))
        | (go_at_call 105; exact Lat.of (joined_any _ vals fv [44] (by simp) _ (hxL _) hn (hTL _))))))
      refine wpQuiet_nil ?_
      intro _ hw'
      obtain ⟨x1, hw''⟩ := hw'
      subst hw''
      have hbx := bt (ba (Below.refl _ _)) x1.ok
      clear Lb0 Lb1 hxL
      go_wp2
      go_ret
      exact ⟨ret_str' (by rw [Hf.out]; apply ByteArray.ext; simp), hbx⟩
def accessFB (x : AccD) : Bool := inR x.meth 0 4 && decide ((x.vals.length : Int) ≤ 3) && !(x.vals.any fun n => !isVal n)
def accessFS (x : AccD) : List UInt8 := if accessFB x then 109 :: (Lib.itoa x.meth ++ (40 :: (listS x.vals [44] ++ [41]))) else []
theorem accessFS_no {x : AccD} (h : accessFB x = false) : accessFS x = [] := by unfold accessFS; rw [h]; rfl
theorem accessFS_yes {x : AccD} (h : accessFB x = true) : accessFS x = 109 :: (Lib.itoa x.meth ++ (40 :: (listS x.vals [44] ++ [41]))) := by unfold accessFS; rw [h]; rfl
set_option maxRecDepth 100000 in
set_option maxHeartbeats 1600000 in
theorem specFormatAccess_any (x : AccD) (v : Value) (fv : List Nat) (w : World) (hx : ints w v x.vals fv) :
    Calls Tryz.prog 33 #[.agg #[.int .i64 x.meth, v]] w fun e w' => e = .returned (.string ⟨(accessFS x).toArray⟩) ∧ Below w.heap.size w w' := by
  obtain ⟨r, vals⟩ := x
  obtain ⟨b, cap, rfl⟩ := slR.form hx
  have hla := slR.le_max hx
  have hI : ∀ y ∈ vals, I64 y := by obtain ⟨o, _, _, hw⟩ := row_of_ints hx; exact hw
  have HI := Lib.hid hI
  clear hI
  have hx' := fun o => hx.al o
  have Hd := Lib.hid (show accessFB ⟨r, vals⟩ = (inR r 0 4 && decide ((vals.length : Int) ≤ 3) && !(vals.any fun n => !isVal n)) from rfl)
  cases hr : inR r 0 4 with
  | false =>
    have Hf := Lib.hid (accessFS_no (x := ⟨r, vals⟩) (by rw [Hd.out, hr]; rfl))
    go_enter Tryz.func33, Tryz.ntmps33
    go_wp2_with (go_at_call 98; refine (f98_any _ _ _ _).mono ?_; rintro e w' ⟨rfl, rfl⟩)
    go_ret
    exact ⟨ret_str' (by rw [Hf.out]), ba (Below.refl _ _)⟩
  | true =>
    have hIr := inR_i64 hr (by omega) (by omega)
    by_cases hl : (vals.length : Int) ≤ 3
    case neg =>
      have Hf := Lib.hid (accessFS_no (x := ⟨r, vals⟩) (by rw [Hd.out, hr, decide_eq_false hl]; rfl))
      have hg1 : (3 : Int) < (vals.length : Int) := by omega
      have hg2 : decide ((3 : Int) < (vals.length : Int)) = true := decide_eq_true hg1
      go_enter Tryz.func33, Tryz.ntmps33
      go_wp2_with (go_at_call 98; refine (f98_any _ _ _ _).mono ?_; rintro e w' ⟨rfl, rfl⟩)
      go_ret
      exact ⟨ret_str' (by rw [Hf.out]), ba (Below.refl _ _)⟩
    have hln : vals.length ≤ 3 := by omega
    have hn : vals.length ≤ 1048576 := by omega
    have Hd2 := Lib.hid (show accessFB ⟨r, vals⟩ = !(vals.any fun n => !isVal n) by rw [Hd.out, hr, decide_eq_true hl]; rfl)
    have hg1 : ¬ (3 : Int) < (vals.length : Int) := by omega
    have hg2 : decide ((3 : Int) < (vals.length : Int)) = false := decide_eq_false hg1
    go_enter Tryz.func33, Tryz.ntmps33
    go_wp2_with (go_at_call 98; refine (f98_any _ _ _ _).mono ?_; rintro e w' ⟨rfl, rfl⟩)
    go_loop [3] (fun i => ∃ k : Nat, i = .int .i64 k ∧ k ≤ vals.length ∧ Hid (∀ j (hj : j < vals.length), j < k → (!isVal vals[j]) = false)) (fun i => vals.length - (intOf i).toNat)
    case atStart => exact ⟨0, rfl, Nat.zero_le _, Lib.hid (fun j hj h0 => by omega)⟩
    case round =>
      obtain ⟨j, rfl, hj, HN⟩ := hrel
      by_cases hlt : j < vals.length
      · obtain ⟨g2, rfl, hc2, _, _, _⟩ := (hx' (.cells #[.int .i64 r, .slice b vals.length cap] 28)).get j hlt
        cases hp : isVal vals[j] with
        | false =>
          have hq : inR vals[j] 0 9 = false := hp
          have Hf := Lib.hid (accessFS_no (x := ⟨r, vals⟩) (by rw [Hd2.out, any_true_of (p := fun n => !isVal n) hlt (by simp [hp])]; rfl))
          go_wp2_with (go_at_call 98; refine (retB (f98_any _ _ _ _) hq).mono ?_; rintro e w' ⟨rfl, rfl⟩)
          go_ret
          exact ⟨ret_str' (by rw [Hf.out]), ba (Below.refl _ _)⟩
        | true =>
          have hq : inR vals[j] 0 9 = true := hp
          have HN2 := Lib.hid (none_step (p := fun n => !isVal n) HN.out hlt (by simp [hp]))
          go_wp2_with (go_at_call 98; refine (retB (f98_any _ _ _ _) hq).mono ?_; rintro e w' ⟨rfl, rfl⟩)
          go_round
          case rel => exact ⟨j + 1, by go_num, by omega, HN2⟩
          case measure => simp [intOf]; omega
      · have hjl : j = vals.length := by omega
        have Hf := Lib.hid (accessFS_yes (x := ⟨r, vals⟩) (by rw [Hd2.out, any_false_of (p := fun n => !isVal n) (fun i hi => HN.out i hi (by omega))]; rfl))
        clear hjl
        have Lb0 : ∀ y : Lat (w.alloc (.cells #[.int .i64 r, .slice b vals.length cap] 28)), y.wd.cell? ⟨w.heap.size, 0, none⟩ = some (.int .i64 r) := fun y => y.cell (cell_new w _ _ 0 _ rfl)
        have Lb1 : ∀ y : Lat (w.alloc (.cells #[.int .i64 r, .slice b vals.length cap] 28)), y.wd.cell? ⟨w.heap.size, 1, none⟩ = some (.slice b vals.length cap) := fun y => y.cell (cell_new w _ _ 1 _ rfl)
        have hxL : ∀ y : Lat (w.alloc (.cells #[.int .i64 r, .slice b vals.length cap] 28)), ints y.wd (.slice b vals.length cap) vals fv := fun y => (hx.al _).below' y.ok
        have hil := itoa_le hIr
        have hll : (listS vals [44]).length ≤ 100 := by
          have h1 := listS_len (l := vals) [44] HI.out
          have h2 : vals.length * (21 + [(44 : UInt8)].length) ≤ 3 * 22 := Nat.mul_le_mul (by omega) (by simp)
          omega
        go_wp2_with fail
        refine wp_region_lat (w.alloc (.cells #[.int .i64 r, .slice b vals.length cap] 28)) (by kernel_rfl) (by kernel_rfl) ?_
        repeat (go_big_quiet_step ((first
          | (go_at_call 115; exact Lat.of (retStr (specFormatInt_any r _ hIr) (numS_data r)))
          | (go_at_call 114; exact Lat.of (l2List_any _ vals fv _ (hxL _) hn)))))
        refine wpQuiet_nil ?_
        intro _ hw'
        obtain ⟨x1, hw''⟩ := hw'
        subst hw''
        have hbx := bt (ba (Below.refl _ _)) x1.ok
        clear Lb0 Lb1 hxL
        go_wp2
        go_ret
        exact ⟨ret_str' (by rw [Hf.out]; apply ByteArray.ext; simp), hbx⟩
set_option maxRecDepth 100000 in
set_option maxHeartbeats 1600000 in
theorem implFormatAccess_any (x : AccD) (v : Value) (fv : List Nat) (w : World) (hx : ints w v x.vals fv) (hT : Lib.TabBelow Tryz.prog w.heap.size w "internal/strconv.uint64pow10" .u64 Lib.pow10Tab) :
    Calls Tryz.prog 32 #[.agg #[.int .i64 x.meth, v]] w fun e w' => e = .returned (.string ⟨(accessFS x).toArray⟩) ∧ Below w.heap.size w w' := by
  obtain ⟨r, vals⟩ := x
  obtain ⟨b, cap, rfl⟩ := slR.form hx
  have hla := slR.le_max hx
  have hI : ∀ y ∈ vals, I64 y := by obtain ⟨o, _, _, hw⟩ := row_of_ints hx; exact hw
  have HI := Lib.hid hI
  clear hI
  have hx' := fun o => hx.al o
  have Hd := Lib.hid (show accessFB ⟨r, vals⟩ = (inR r 0 4 && decide ((vals.length : Int) ≤ 3) && !(vals.any fun n => !isVal n)) from rfl)
  cases hr : inR r 0 4 with
  | false =>
    have Hf := Lib.hid (accessFS_no (x := ⟨r, vals⟩) (by rw [Hd.out, hr]; rfl))
    go_enter Tryz.func32, Tryz.ntmps32
    go_wp2_with (go_at_call 119; refine (f119_any _ _ _ _).mono ?_; rintro e w' ⟨rfl, rfl⟩)
    go_ret
    exact ⟨ret_str' (by rw [Hf.out]), ba (Below.refl _ _)⟩
  | true =>
    have hIr := inR_i64 hr (by omega) (by omega)
    by_cases hl : (vals.length : Int) ≤ 3
    case neg =>
      have Hf := Lib.hid (accessFS_no (x := ⟨r, vals⟩) (by rw [Hd.out, hr, decide_eq_false hl]; rfl))
      have hg1 : (3 : Int) < (vals.length : Int) := by omega
      have hg2 : decide ((3 : Int) < (vals.length : Int)) = true := decide_eq_true hg1
      go_enter Tryz.func32, Tryz.ntmps32
      go_wp2_with (go_at_call 119; refine (f119_any _ _ _ _).mono ?_; rintro e w' ⟨rfl, rfl⟩)
      go_ret
      exact ⟨ret_str' (by rw [Hf.out]), ba (Below.refl _ _)⟩
    have hln : vals.length ≤ 3 := by omega
    have hn : vals.length ≤ 1048576 := by omega
    have Hd2 := Lib.hid (show accessFB ⟨r, vals⟩ = !(vals.any fun n => !isVal n) by rw [Hd.out, hr, decide_eq_true hl]; rfl)
    have hg1 : ¬ (3 : Int) < (vals.length : Int) := by omega
    have hg2 : decide ((3 : Int) < (vals.length : Int)) = false := decide_eq_false hg1
    cases ha : !(vals.any fun n => !isVal n) with
    | false =>
      have Hf := Lib.hid (accessFS_no (x := ⟨r, vals⟩) (by rw [Hd2.out, ha]))
      go_enter Tryz.func32, Tryz.ntmps32
      go_wp2_with (first | (go_at_call 119; refine (f119_any _ _ _ _).mono ?_; rintro e w' ⟨rfl, rfl⟩) | (go_at_call 120; refine (retB (areValues_any _ vals fv _ (hx' _)) ha).mono ?_; rintro e w' ⟨rfl, rfl⟩))
      go_ret
      exact ⟨ret_str' (by rw [Hf.out]), ba (Below.refl _ _)⟩
    | true =>
      have Hf := Lib.hid (accessFS_yes (x := ⟨r, vals⟩) (by rw [Hd2.out, ha]))
      go_enter Tryz.func32, Tryz.ntmps32
      go_wp2_with (first | (go_at_call 119; refine (f119_any _ _ _ _).mono ?_; rintro e w' ⟨rfl, rfl⟩) | (go_at_call 120; refine (retB (areValues_any _ vals fv _ (hx' _)) ha).mono ?_; rintro e w' ⟨rfl, rfl⟩))
      have Lb0 : ∀ y : Lat (w.alloc (.cells #[.int .i64 r, .slice b vals.length cap] 28)), y.wd.cell? ⟨w.heap.size, 0, none⟩ = some (.int .i64 r) := fun y => y.cell (cell_new w _ _ 0 _ rfl)
      have Lb1 : ∀ y : Lat (w.alloc (.cells #[.int .i64 r, .slice b vals.length cap] 28)), y.wd.cell? ⟨w.heap.size, 1, none⟩ = some (.slice b vals.length cap) := fun y => y.cell (cell_new w _ _ 1 _ rfl)
      have hxL : ∀ y : Lat (w.alloc (.cells #[.int .i64 r, .slice b vals.length cap] 28)), ints y.wd (.slice b vals.length cap) vals fv := fun y => (hx.al _).below' y.ok
      have hTL : ∀ y : Lat (w.alloc (.cells #[.int .i64 r, .slice b vals.length cap] 28)), Lib.TabBelow Tryz.prog y.wd.heap.size y.wd "internal/strconv.uint64pow10" .u64 Lib.pow10Tab := fun y => Tab.on hT (bt (ba (Below.refl _ _)) y.ok)
      have hil := itoa_le hIr
      have hll : (listS vals [44]).length ≤ 100 := by
        have h1 := listS_len (l := vals) [44] HI.out
        have h2 : vals.length * (21 + [(44 : UInt8)].length) ≤ 3 * 22 := Nat.mul_le_mul (by omega) (by simp)
        omega
      go_wp2_with fail
      refine wp_region_lat (w.alloc (.cells #[.int .i64 r, .slice b vals.length cap] 28)) (by kernel_rfl) (by kernel_rfl) ?_
      repeat (go_big_quiet_step ((first
        | (go_at_call 106; exact Lat.of (retStr (implFormatInt_any r _ hIr ((hTL _) _ (Below.refl _ _))) (numS_data r)))
        | (go_at_call 105; exact Lat.of (joined_any _ vals fv [44] (by simp) _ (hxL _) hn (hTL _))))))
      refine wpQuiet_nil ?_
      intro _ hw'
      obtain ⟨x1, hw''⟩ := hw'
      subst hw''
      have hbx := bt (ba (Below.refl _ _)) x1.ok
      clear Lb0 Lb1 hxL
      go_wp2
      go_ret
      exact ⟨ret_str' (by rw [Hf.out]; apply ByteArray.ext; simp), hbx⟩
def atomFB (x : AtomD) : Bool := inR x.rel 0 2 && inR (x.terms.length : Int) 1 3 && !(x.terms.any fun n => !isTermB n)
def atomFS (x : AtomD) : List UInt8 := if atomFB x then 114 :: (Lib.itoa x.rel ++ (40 :: (termsS x.terms [44] ++ [41]))) else []
theorem atomFS_no {x : AtomD} (h : atomFB x = false) : atomFS x = [] := by unfold atomFS; rw [h]; rfl
theorem atomFS_yes {x : AtomD} (h : atomFB x = true) : atomFS x = 114 :: (Lib.itoa x.rel ++ (40 :: (termsS x.terms [44] ++ [41]))) := by unfold atomFS; rw [h]; rfl
set_option maxRecDepth 100000 in
set_option maxHeartbeats 1600000 in
theorem specFormatAtom_any (x : AtomD) (v : Value) (fv : List Nat) (w : World) (hx : ints w v x.terms fv) :
    Calls Tryz.prog 64 #[.agg #[.int .i64 x.rel, v]] w fun e w' => e = .returned (.string ⟨(atomFS x).toArray⟩) ∧ Below w.heap.size w w' := by
  obtain ⟨r, vals⟩ := x
  obtain ⟨b, cap, rfl⟩ := slR.form hx
  have hla := slR.le_max hx
  have hI : ∀ y ∈ vals, I64 y := by obtain ⟨o, _, _, hw⟩ := row_of_ints hx; exact hw
  have HI := Lib.hid hI
  clear hI
  have hx' := fun o => hx.al o
  have Hd := Lib.hid (show atomFB ⟨r, vals⟩ = (inR r 0 2 && inR (vals.length : Int) 1 3 && !(vals.any fun n => !isTermB n)) from rfl)
  cases hr : inR r 0 2 with
  | false =>
    have Hf := Lib.hid (atomFS_no (x := ⟨r, vals⟩) (by rw [Hd.out, hr]; rfl))
    go_enter Tryz.func64, Tryz.ntmps64
    go_wp2_with (go_at_call 98; refine (f98_any _ _ _ _).mono ?_; rintro e w' ⟨rfl, rfl⟩)
    go_ret
    exact ⟨ret_str' (by rw [Hf.out]), ba (Below.refl _ _)⟩
  | true =>
    have hIr := inR_i64 hr (by omega) (by omega)
    cases hl : inR (vals.length : Int) 1 3
    case false =>
      have Hf := Lib.hid (atomFS_no (x := ⟨r, vals⟩) (by rw [Hd.out, hr, hl]; rfl))
      go_enter Tryz.func64, Tryz.ntmps64
      go_wp2_with (first | (go_at_call 98; refine (f98_any _ _ _ _).mono ?_; rintro e w' ⟨rfl, rfl⟩) | (go_at_call 98; refine (f98_any _ _ _ _).mono ?_; rintro e w' ⟨rfl, rfl⟩))
      go_ret
      exact ⟨ret_str' (by rw [Hf.out]), ba (Below.refl _ _)⟩
    have hln : vals.length ≤ 3 := by have := inR_true hl; omega
    have hn : vals.length ≤ 1048576 := by omega
    have Hd2 := Lib.hid (show atomFB ⟨r, vals⟩ = !(vals.any fun n => !isTermB n) by rw [Hd.out, hr, hl]; rfl)
    go_enter Tryz.func64, Tryz.ntmps64
    go_wp2_with (first | (go_at_call 98; refine (f98_any _ _ _ _).mono ?_; rintro e w' ⟨rfl, rfl⟩) | (go_at_call 98; refine (f98_any _ _ _ _).mono ?_; rintro e w' ⟨rfl, rfl⟩))
    go_loop [3] (fun i => ∃ k : Nat, i = .int .i64 k ∧ k ≤ vals.length ∧ Hid (∀ j (hj : j < vals.length), j < k → (!isTermB vals[j]) = false)) (fun i => vals.length - (intOf i).toNat)
    case atStart => exact ⟨0, rfl, Nat.zero_le _, Lib.hid (fun j hj h0 => by omega)⟩
    case round =>
      obtain ⟨j, rfl, hj, HN⟩ := hrel
      by_cases hlt : j < vals.length
      · obtain ⟨g2, rfl, hc2, _, _, _⟩ := (hx' (.cells #[.int .i64 r, .slice b vals.length cap] 73)).get j hlt
        cases hp : isTermB vals[j] with
        | false =>
          have hq := hp
          have Hf := Lib.hid (atomFS_no (x := ⟨r, vals⟩) (by rw [Hd2.out, any_true_of (p := fun n => !isTermB n) hlt (by simp [hp])]; rfl))
          go_wp2_with (go_at_call 151; refine (retB (f151_any _ _) hq).mono ?_; rintro e w' ⟨rfl, rfl⟩)
          go_ret
          exact ⟨ret_str' (by rw [Hf.out]), ba (Below.refl _ _)⟩
        | true =>
          have hq := hp
          have HN2 := Lib.hid (none_step (p := fun n => !isTermB n) HN.out hlt (by simp [hp]))
          go_wp2_with (go_at_call 151; refine (retB (f151_any _ _) hq).mono ?_; rintro e w' ⟨rfl, rfl⟩)
          go_round
          case rel => exact ⟨j + 1, by go_num, by omega, HN2⟩
          case measure => simp [intOf]; omega
      · have hjl : j = vals.length := by omega
        have Hf := Lib.hid (atomFS_yes (x := ⟨r, vals⟩) (by rw [Hd2.out, any_false_of (p := fun n => !isTermB n) (fun i hi => HN.out i hi (by omega))]; rfl))
        clear hjl
        have Lb0 : ∀ y : Lat (w.alloc (.cells #[.int .i64 r, .slice b vals.length cap] 73)), y.wd.cell? ⟨w.heap.size, 0, none⟩ = some (.int .i64 r) := fun y => y.cell (cell_new w _ _ 0 _ rfl)
        have Lb1 : ∀ y : Lat (w.alloc (.cells #[.int .i64 r, .slice b vals.length cap] 73)), y.wd.cell? ⟨w.heap.size, 1, none⟩ = some (.slice b vals.length cap) := fun y => y.cell (cell_new w _ _ 1 _ rfl)
        have hxL : ∀ y : Lat (w.alloc (.cells #[.int .i64 r, .slice b vals.length cap] 73)), ints y.wd (.slice b vals.length cap) vals fv := fun y => (hx.al _).below' y.ok
        have hil := itoa_le hIr
        have hll : (termsS vals [44]).length ≤ 100 := by
          have h1 := termsS_len (l := vals) [44] HI.out
          have h2 : vals.length * (22 + [(44 : UInt8)].length) ≤ 3 * 23 := Nat.mul_le_mul (by omega) (by simp)
          omega
        go_wp2_with fail
        refine wp_region_lat (w.alloc (.cells #[.int .i64 r, .slice b vals.length cap] 73)) (by kernel_rfl) (by kernel_rfl) ?_
        repeat (go_big_quiet_step ((first
          | (go_at_call 115; exact Lat.of (retStr (specFormatInt_any r _ hIr) (numS_data r)))
          | (go_at_call 137; exact Lat.of (l3Terms_any _ vals fv _ (hxL _) hn)))))
        refine wpQuiet_nil ?_
        intro _ hw'
        obtain ⟨x1, hw''⟩ := hw'
        subst hw''
        have hbx := bt (ba (Below.refl _ _)) x1.ok
        clear Lb0 Lb1 hxL
        go_wp2
        go_ret
        exact ⟨ret_str' (by rw [Hf.out]; apply ByteArray.ext; simp), hbx⟩
set_option maxRecDepth 100000 in
set_option maxHeartbeats 1600000 in
theorem implFormatAtom_any (x : AtomD) (v : Value) (fv : List Nat) (w : World) (hx : ints w v x.terms fv) (hT : Lib.TabBelow Tryz.prog w.heap.size w "internal/strconv.uint64pow10" .u64 Lib.pow10Tab) :
    Calls Tryz.prog 63 #[.agg #[.int .i64 x.rel, v]] w fun e w' => e = .returned (.string ⟨(atomFS x).toArray⟩) ∧ Below w.heap.size w w' := by
  obtain ⟨r, vals⟩ := x
  obtain ⟨b, cap, rfl⟩ := slR.form hx
  have hla := slR.le_max hx
  have hI : ∀ y ∈ vals, I64 y := by obtain ⟨o, _, _, hw⟩ := row_of_ints hx; exact hw
  have HI := Lib.hid hI
  clear hI
  have hx' := fun o => hx.al o
  have Hd := Lib.hid (show atomFB ⟨r, vals⟩ = (inR r 0 2 && inR (vals.length : Int) 1 3 && !(vals.any fun n => !isTermB n)) from rfl)
  cases hr : inR r 0 2 with
  | false =>
    have Hf := Lib.hid (atomFS_no (x := ⟨r, vals⟩) (by rw [Hd.out, hr]; rfl))
    go_enter Tryz.func63, Tryz.ntmps63
    go_wp2_with (go_at_call 103; refine (isRel_any _ _).mono ?_; rintro e w' ⟨rfl, rfl⟩)
    go_ret
    exact ⟨ret_str' (by rw [Hf.out]), ba (Below.refl _ _)⟩
  | true =>
    have hIr := inR_i64 hr (by omega) (by omega)
    cases hl : inR (vals.length : Int) 1 3
    case false =>
      have Hf := Lib.hid (atomFS_no (x := ⟨r, vals⟩) (by rw [Hd.out, hr, hl]; rfl))
      go_enter Tryz.func63, Tryz.ntmps63
      go_wp2_with (first | (go_at_call 103; refine (isRel_any _ _).mono ?_; rintro e w' ⟨rfl, rfl⟩) | (go_at_call 119; refine (f119_any _ _ _ _).mono ?_; rintro e w' ⟨rfl, rfl⟩))
      go_ret
      exact ⟨ret_str' (by rw [Hf.out]), ba (Below.refl _ _)⟩
    have hln : vals.length ≤ 3 := by have := inR_true hl; omega
    have hn : vals.length ≤ 1048576 := by omega
    have Hd2 := Lib.hid (show atomFB ⟨r, vals⟩ = !(vals.any fun n => !isTermB n) by rw [Hd.out, hr, hl]; rfl)
    cases ha : !(vals.any fun n => !isTermB n) with
    | false =>
      have Hf := Lib.hid (atomFS_no (x := ⟨r, vals⟩) (by rw [Hd2.out, ha]))
      go_enter Tryz.func63, Tryz.ntmps63
      go_wp2_with (first | (go_at_call 103; refine (isRel_any _ _).mono ?_; rintro e w' ⟨rfl, rfl⟩) | (go_at_call 119; refine (f119_any _ _ _ _).mono ?_; rintro e w' ⟨rfl, rfl⟩) | (go_at_call 150; refine (retB (areTerms_any _ vals fv _ (hx' _)) ha).mono ?_; rintro e w' ⟨rfl, rfl⟩))
      go_ret
      exact ⟨ret_str' (by rw [Hf.out]), ba (Below.refl _ _)⟩
    | true =>
      have Hf := Lib.hid (atomFS_yes (x := ⟨r, vals⟩) (by rw [Hd2.out, ha]))
      go_enter Tryz.func63, Tryz.ntmps63
      go_wp2_with (first | (go_at_call 103; refine (isRel_any _ _).mono ?_; rintro e w' ⟨rfl, rfl⟩) | (go_at_call 119; refine (f119_any _ _ _ _).mono ?_; rintro e w' ⟨rfl, rfl⟩) | (go_at_call 150; refine (retB (areTerms_any _ vals fv _ (hx' _)) ha).mono ?_; rintro e w' ⟨rfl, rfl⟩))
      have Lb0 : ∀ y : Lat (w.alloc (.cells #[.int .i64 r, .slice b vals.length cap] 73)), y.wd.cell? ⟨w.heap.size, 0, none⟩ = some (.int .i64 r) := fun y => y.cell (cell_new w _ _ 0 _ rfl)
      have Lb1 : ∀ y : Lat (w.alloc (.cells #[.int .i64 r, .slice b vals.length cap] 73)), y.wd.cell? ⟨w.heap.size, 1, none⟩ = some (.slice b vals.length cap) := fun y => y.cell (cell_new w _ _ 1 _ rfl)
      have hxL : ∀ y : Lat (w.alloc (.cells #[.int .i64 r, .slice b vals.length cap] 73)), ints y.wd (.slice b vals.length cap) vals fv := fun y => (hx.al _).below' y.ok
      have hTL : ∀ y : Lat (w.alloc (.cells #[.int .i64 r, .slice b vals.length cap] 73)), Lib.TabBelow Tryz.prog y.wd.heap.size y.wd "internal/strconv.uint64pow10" .u64 Lib.pow10Tab := fun y => Tab.on hT (bt (ba (Below.refl _ _)) y.ok)
      have hil := itoa_le hIr
      have hll : (termsS vals [44]).length ≤ 100 := by
        have h1 := termsS_len (l := vals) [44] HI.out
        have h2 : vals.length * (22 + [(44 : UInt8)].length) ≤ 3 * 23 := Nat.mul_le_mul (by omega) (by simp)
        omega
      go_wp2_with fail
      refine wp_region_lat (w.alloc (.cells #[.int .i64 r, .slice b vals.length cap] 73)) (by kernel_rfl) (by kernel_rfl) ?_
      repeat (go_big_quiet_step ((first
        | (go_at_call 106; exact Lat.of (retStr (implFormatInt_any r _ hIr ((hTL _) _ (Below.refl _ _))) (numS_data r)))
        | (go_at_call 135; exact Lat.of (termsText_any _ vals fv _ (hxL _) hn (hTL _))))))
      refine wpQuiet_nil ?_
      intro _ hw'
      obtain ⟨x1, hw''⟩ := hw'
      subst hw''
      have hbx := bt (ba (Below.refl _ _)) x1.ok
      clear Lb0 Lb1 hxL
      go_wp2
      go_ret
      exact ⟨ret_str' (by rw [Hf.out]; apply ByteArray.ext; simp), hbx⟩
end Go.Proofs.YtojjojcmemifhaaGreatDoor
/- The laws' helpers at Fact and at slices of it: size, copy, comparison, marks, marks held. Conditions: the sizes that the laws themselves ask. -/
namespace Go.Proofs.YtojjojcmemifhaaGreatDoor
open Go.RowKit
set_option linter.unusedVariables false
set_option linter.unusedSimpArgs false
instance : DecidableEq FactD := fun a b => decidable_of_iff (a.rel = b.rel ∧ a.vals = b.vals) (by cases a; cases b; simp)
instance : Inhabited FactD := ⟨⟨0, []⟩⟩
def bulkFact (x : FactD) : Nat := x.vals.length
set_option maxHeartbeats 800000 in
theorem eqFact_any (x y : FactD) (vvals yvals : Value) (fvals gvals : List Nat) (w : World) (hvals : ints w vvals x.vals fvals) (kvals : ints w yvals y.vals gvals) :
    Calls Tryz.prog 67 #[.agg #[.int .i64 x.rel, vvals], .agg #[.int .i64 y.rel, yvals]] w fun e w' => e = .returned (.bool (decide (x = y))) ∧ Below w.heap.size w w' := by
  obtain ⟨avals, cvals, rfl⟩ := slR.form hvals
  obtain ⟨bvals, dvals, rfl⟩ := slR.form kvals
  have hb0 : ∀ o1 o2 : Obj, Below w.heap.size w ((w.alloc o1).alloc o2) := fun o1 o2 => ((Below.refl _ _).alloc (Nat.le_refl _) _).alloc (by simp) _
  by_cases erel : x.rel = y.rel
  case neg =>
    have trel : (x.rel != y.rel) = true := by simp [erel]
    have Hfin := Lib.hid (show decide (x = y) = false from decide_eq_false (fun h => erel (by rw [h])))
    clear erel
    go_enter Tryz.func67, Tryz.ntmps67
    go_wp2
    go_ret
    exact ⟨ret_bool (by rw [Hfin.out]), hb0 _ _⟩
  by_cases evals : x.vals = y.vals
  case neg =>
    have trel : (x.rel != y.rel) = false := by simp [erel]
    have tvals : decide (x.vals = y.vals) = false := by simp [evals]
    have Hfin := Lib.hid (show decide (x = y) = false from decide_eq_false (fun h => evals (by rw [h])))
    clear erel
    clear evals
    go_enter Tryz.func67, Tryz.ntmps67
    go_wp2_with fail
    refine (eqIntS_any _ _ _ _ _ _ _ (hvals.below' (hb0 _ _)) (kvals.below' (hb0 _ _))).mono ?_
    rintro e w1 ⟨rfl, hb1⟩
    have hB1 := Below.trans (hb0 _ _) (hb1.mono (hb0 _ _).size)
    have hz1 : w.heap.size + 1 < w1.heap.size := by have := hb1.size; simp at this; omega
    obtain ⟨hc1, hzz1⟩ := bcell hb1
    go_wp2
    go_ret
    exact ⟨ret_bool (by rw [Hfin.out]), hB1⟩
  have trel : (x.rel != y.rel) = false := by simp [erel]
  have tvals : decide (x.vals = y.vals) = true := by simp [evals]
  have Hfin := Lib.hid (show decide (x = y) = true from decide_eq_true (by cases x; cases y; simp_all))
  clear erel
  clear evals
  go_enter Tryz.func67, Tryz.ntmps67
  go_wp2_with fail
  refine (eqIntS_any _ _ _ _ _ _ _ (hvals.below' (hb0 _ _)) (kvals.below' (hb0 _ _))).mono ?_
  rintro e w1 ⟨rfl, hb1⟩
  have hB1 := Below.trans (hb0 _ _) (hb1.mono (hb0 _ _).size)
  have hz1 : w.heap.size + 1 < w1.heap.size := by have := hb1.size; simp at this; omega
  obtain ⟨hc1, hzz1⟩ := bcell hb1
  go_wp2
  go_ret
  exact ⟨ret_bool (by rw [Hfin.out]), hB1⟩
set_option maxRecDepth 100000 in
set_option maxHeartbeats 400000 in
theorem markFact_any (x : FactD) (vvals : Value) (fvals : List Nat) (k0 : Int) (w : World) (hvals : ints w vvals x.vals fvals) (hnd : (fvals).Nodup) (hk0 : 0 ≤ k0) (hk1 : k0 + (x.vals.length : Nat) ≤ 1000000000) :
    Calls Tryz.prog 68 #[.agg #[.int .i64 x.rel, vvals], .int .i64 k0] w fun e w' => e = .returned (.int .i64 (k0 + (x.vals.length : Nat))) ∧ ints w' vvals (marks (k0) x.vals.length) fvals ∧ Wrote (fvals) w w' := by
  obtain ⟨avals, cvals, rfl⟩ := slR.form hvals
  have hnovals : w.heap.size ∉ fvals := fun hx => by have := hvals.lt _ hx; omega
  have hw0 : ∀ (ff : List Nat) (o : Obj), Wrote ff w (w.alloc o) := fun ff o => Wrote.alloc (Wrote.refl ff w) o
  go_enter Tryz.func68, Tryz.ntmps68
  go_wp2_with fail
  refine (markIntS_any _ x.vals fvals _ _ (hvals.below' ((Below.refl _ _).alloc (Nat.le_refl _) _)) ⟨by omega, by omega⟩ (by omega)).mono ?_
  rintro e w1 ⟨rfl, hmvals, hw1⟩
  have hc1 := fun o => hw1.cellAt (b := w.heap.size) (o := o) (by simp) hnovals
  go_wp2
  go_ret
  exact ⟨rfl, hmvals, (hw0 _ _).trans (hw1.mono (by simp))⟩
set_option maxRecDepth 100000 in
set_option maxHeartbeats 400000 in
theorem heldFact_any (x : FactD) (zrel : Int) (vvals : Value) (fvals : List Nat) (k0 : Int) (w : World) (hvals : ints w vvals (marks (k0) x.vals.length) fvals) (hk0 : 0 ≤ k0) (hk1 : k0 + (x.vals.length : Nat) ≤ 1000000000) :
    Calls Tryz.prog 69 #[.agg #[.int .i64 zrel, vvals], .int .i64 k0] w fun e w' => e = .returned (.int .i64 (k0 + (x.vals.length : Nat))) ∧ Below w.heap.size w w' := by
  have hb0 : ∀ o1 : Obj, Below w.heap.size w (w.alloc o1) := fun o1 => (Below.refl _ _).alloc (Nat.le_refl _) _
  obtain ⟨avals, cvals, hvvals⟩ := slR.form hvals
  rw [marks_length] at hvvals
  subst hvvals
  go_enter Tryz.func69, Tryz.ntmps69
  go_wp2_with fail
  refine (heldIntS_any _ x.vals.length fvals _ _ (hvals.below' (hb0 _)) ⟨by omega, by omega⟩ (by omega)).mono ?_
  rintro e w1 ⟨rfl, hb1⟩
  have hB1 := Below.trans (hb0 _) (hb1.mono (Below.size (hb0 _)))
  have hz1 : w.heap.size < w1.heap.size := by have := hb1.size; simp at this; omega
  obtain ⟨hc1, hzz1⟩ := bcell hb1
  go_wp2
  go_ret
  exact ⟨rfl, hB1⟩
theorem infoFactS : (Tryz.prog.info? 83).map (fun i => (i.zero, i.size, i.bytes)) = some (some (.agg #[.int .i64 0, .slice none 0 0]), 2, 32) := by kernel_rfl
theorem slFactS : SlT Tryz.prog 26 83 (.agg #[.int .i64 0, .slice none 0 0]) 2 32 := slT_of Tryz.underlying26 infoFactS rfl (by decide)
def bulkFactS (l : List FactD) : Nat := l.length + (l.map fun x => bulkFact x).sum
def markFactD (k : Int) (x : FactD) : FactD := { rel := k, vals := marks (k + 1) x.vals.length }
def cntFact (x : FactD) : Nat := 1 + x.vals.length
end Go.Proofs.YtojjojcmemifhaaGreatDoor
/- The laws' helpers at Method and at slices of it: size, copy, comparison, marks, marks held. Conditions: the sizes that the laws themselves ask. -/
namespace Go.Proofs.YtojjojcmemifhaaGreatDoor
open Go.RowKit
set_option linter.unusedVariables false
set_option linter.unusedSimpArgs false
instance : DecidableEq MethD := fun a b => decidable_of_iff (a.rel = b.rel ∧ a.inputs = b.inputs ∧ a.limit = b.limit ∧ a.cost = b.cost ∧ a.quota = b.quota) (by cases a; cases b; simp)
instance : Inhabited MethD := ⟨⟨0, [], 0, 0, 0⟩⟩
def bulkMethod (x : MethD) : Nat := x.inputs.length
theorem infoMethodS : (Tryz.prog.info? 38).map (fun i => (i.zero, i.size, i.bytes)) = some (some (.agg #[.int .i64 0, .slice none 0 0, .int .i64 0, .int .i64 0, .int .i64 0]), 5, 56) := by kernel_rfl
theorem slMethodS : SlT Tryz.prog 25 38 (.agg #[.int .i64 0, .slice none 0 0, .int .i64 0, .int .i64 0, .int .i64 0]) 5 56 := slT_of Tryz.underlying25 infoMethodS rfl (by decide)
def bulkMethodS (l : List MethD) : Nat := l.length + (l.map fun x => bulkMethod x).sum
def markMethodD (k : Int) (x : MethD) : MethD := { rel := k, inputs := marks (k + 1) x.inputs.length, limit := k + 1 + (x.inputs.length : Int), cost := k + 1 + (x.inputs.length : Int) + 1, quota := k + 1 + (x.inputs.length : Int) + 1 + 1 }
def cntMethod (x : MethD) : Nat := 1 + x.inputs.length + 1 + 1 + 1
end Go.Proofs.YtojjojcmemifhaaGreatDoor
/- The laws' helpers at Access and at slices of it: size, copy, comparison, marks, marks held. Conditions: the sizes that the laws themselves ask. -/
namespace Go.Proofs.YtojjojcmemifhaaGreatDoor
open Go.RowKit
set_option linter.unusedVariables false
set_option linter.unusedSimpArgs false
instance : DecidableEq AccD := fun a b => decidable_of_iff (a.meth = b.meth ∧ a.vals = b.vals) (by cases a; cases b; simp)
instance : Inhabited AccD := ⟨⟨0, []⟩⟩
def bulkAccess (x : AccD) : Nat := x.vals.length
theorem infoAccessS : (Tryz.prog.info? 28).map (fun i => (i.zero, i.size, i.bytes)) = some (some (.agg #[.int .i64 0, .slice none 0 0]), 2, 32) := by kernel_rfl
theorem slAccessS : SlT Tryz.prog 49 28 (.agg #[.int .i64 0, .slice none 0 0]) 2 32 := slT_of Tryz.underlying49 infoAccessS rfl (by decide)
def bulkAccessS (l : List AccD) : Nat := l.length + (l.map fun x => bulkAccess x).sum
def markAccessD (k : Int) (x : AccD) : AccD := { meth := k, vals := marks (k + 1) x.vals.length }
def cntAccess (x : AccD) : Nat := 1 + x.vals.length
end Go.Proofs.YtojjojcmemifhaaGreatDoor
/- The laws' helpers at Atom and at slices of it: size, copy, comparison, marks, marks held. Conditions: the sizes that the laws themselves ask. -/
namespace Go.Proofs.YtojjojcmemifhaaGreatDoor
open Go.RowKit
set_option linter.unusedVariables false
set_option linter.unusedSimpArgs false
instance : DecidableEq AtomD := fun a b => decidable_of_iff (a.rel = b.rel ∧ a.terms = b.terms) (by cases a; cases b; simp)
instance : Inhabited AtomD := ⟨⟨0, []⟩⟩
def bulkAtom (x : AtomD) : Nat := x.terms.length
set_option maxHeartbeats 800000 in
theorem eqAtom_any (x y : AtomD) (vterms yterms : Value) (fterms gterms : List Nat) (w : World) (hterms : ints w vterms x.terms fterms) (kterms : ints w yterms y.terms gterms) :
    Calls Tryz.prog 194 #[.agg #[.int .i64 x.rel, vterms], .agg #[.int .i64 y.rel, yterms]] w fun e w' => e = .returned (.bool (decide (x = y))) ∧ Below w.heap.size w w' := by
  obtain ⟨aterms, cterms, rfl⟩ := slR.form hterms
  obtain ⟨bterms, dterms, rfl⟩ := slR.form kterms
  have hb0 : ∀ o1 o2 : Obj, Below w.heap.size w ((w.alloc o1).alloc o2) := fun o1 o2 => ((Below.refl _ _).alloc (Nat.le_refl _) _).alloc (by simp) _
  by_cases erel : x.rel = y.rel
  case neg =>
    have trel : (x.rel != y.rel) = true := by simp [erel]
    have Hfin := Lib.hid (show decide (x = y) = false from decide_eq_false (fun h => erel (by rw [h])))
    clear erel
    go_enter Tryz.func194, Tryz.ntmps194
    go_wp2
    go_ret
    exact ⟨ret_bool (by rw [Hfin.out]), hb0 _ _⟩
  by_cases eterms : x.terms = y.terms
  case neg =>
    have trel : (x.rel != y.rel) = false := by simp [erel]
    have tterms : decide (x.terms = y.terms) = false := by simp [eterms]
    have Hfin := Lib.hid (show decide (x = y) = false from decide_eq_false (fun h => eterms (by rw [h])))
    clear erel
    clear eterms
    go_enter Tryz.func194, Tryz.ntmps194
    go_wp2_with fail
    refine (eqIntS_any _ _ _ _ _ _ _ (hterms.below' (hb0 _ _)) (kterms.below' (hb0 _ _))).mono ?_
    rintro e w1 ⟨rfl, hb1⟩
    have hB1 := Below.trans (hb0 _ _) (hb1.mono (hb0 _ _).size)
    have hz1 : w.heap.size + 1 < w1.heap.size := by have := hb1.size; simp at this; omega
    obtain ⟨hc1, hzz1⟩ := bcell hb1
    go_wp2
    go_ret
    exact ⟨ret_bool (by rw [Hfin.out]), hB1⟩
  have trel : (x.rel != y.rel) = false := by simp [erel]
  have tterms : decide (x.terms = y.terms) = true := by simp [eterms]
  have Hfin := Lib.hid (show decide (x = y) = true from decide_eq_true (by cases x; cases y; simp_all))
  clear erel
  clear eterms
  go_enter Tryz.func194, Tryz.ntmps194
  go_wp2_with fail
  refine (eqIntS_any _ _ _ _ _ _ _ (hterms.below' (hb0 _ _)) (kterms.below' (hb0 _ _))).mono ?_
  rintro e w1 ⟨rfl, hb1⟩
  have hB1 := Below.trans (hb0 _ _) (hb1.mono (hb0 _ _).size)
  have hz1 : w.heap.size + 1 < w1.heap.size := by have := hb1.size; simp at this; omega
  obtain ⟨hc1, hzz1⟩ := bcell hb1
  go_wp2
  go_ret
  exact ⟨ret_bool (by rw [Hfin.out]), hB1⟩
theorem infoAtomS : (Tryz.prog.info? 73).map (fun i => (i.zero, i.size, i.bytes)) = some (some (.agg #[.int .i64 0, .slice none 0 0]), 2, 32) := by kernel_rfl
theorem slAtomS : SlT Tryz.prog 56 73 (.agg #[.int .i64 0, .slice none 0 0]) 2 32 := slT_of Tryz.underlying56 infoAtomS rfl (by decide)
def bulkAtomS (l : List AtomD) : Nat := l.length + (l.map fun x => bulkAtom x).sum
set_option maxRecDepth 100000 in
set_option maxHeartbeats 800000 in
theorem eqAtomS_any (va vb : Value) (l m : List AtomD) (fa fb : List Nat) (w : World) (ha : atoms w va l fa) (hb : atoms w vb m fb) :
    Calls Tryz.prog 128 #[va, vb] w fun e w' => e = .returned (.bool (decide (l = m))) ∧ Below w.heap.size w w' := by
  obtain ⟨a, cap, rfl⟩ := slR.form ha
  obtain ⟨b, cap', rfl⟩ := slR.form hb
  have hla := slR.le_max ha
  by_cases hlen : l.length = m.length
  · have Hlen := Lib.hid hlen
    have hle : m.length ≤ l.length := by omega
    have hge : l.length ≤ m.length := by omega
    have hne0 : ((l.length : Int) != (m.length : Int)) = false := by simp [hlen]
    clear hlen
    go_enter Tryz.func128, Tryz.ntmps128
    go_wp2
    go_loopw [5] (fun i wr => ∃ k : Nat, i = .int .i64 k ∧ k ≤ l.length ∧ Hid (l.take k = m.take k) ∧ Below w.heap.size w wr) (fun i _ => l.length - (intOf i).toNat)
    case atStart => exact ⟨0, rfl, Nat.zero_le _, Lib.hid (by simp), Below.refl _ _⟩
    case round =>
      obtain ⟨k, rfl, hk, HT, hbel⟩ := hrel
      by_cases hlt : k < l.length
      · obtain ⟨g, c, fi, rfl, ⟨pxterms, rfl, pirel, phterms⟩, _, hc, _, _, _⟩ := slR.at (ha.below' hbel) k hlt
        obtain ⟨g', c', fi', rfl, ⟨qxterms, rfl, qirel, qhterms⟩, _, hc', _, _, _⟩ := slR.at (hb.below' hbel) k (by omega)
        have hp0 : wr.cell? ⟨g, k * 2, none⟩ = _ := hc 0 _ rfl
        have hq0 : wr.cell? ⟨g', k * 2, none⟩ = _ := hc' 0 _ rfl
        have hp1 : wr.cell? ⟨g, k * 2 + 1, none⟩ = _ := hc 1 _ rfl
        have hq1 : wr.cell? ⟨g', k * 2 + 1, none⟩ = _ := hc' 1 _ rfl
        clear hc hc'
        have hkm : (k : Int) < (m.length : Int) := by omega
        have hkl : (k : Int) < (l.length : Int) := by omega
        by_cases he : l[k] = m[k]
        · have HS := Lib.hid (take_eq_step hlt (by omega) HT.out he)
          have hne : decide (l[k] = m[k]) = true := by simp [he]
          clear he
          go_wp2
          have Hla := Lib.hid hla; clear hla
          refine wp_region_still_tail 8 (by kernel_rfl) (by kernel_rfl) ?_
          change wpStill _ _ (World.drew _) _ _ _
          simp only [List.take_succ_cons, List.take_zero, List.drop_succ_cons, List.drop_zero]
          iterate 8 still_step
          refine wpStill_nil ?_
          have hla := Hla.out
          change wpList _ _ _ _ _ wr.drew
          go_wp2_with fail
          refine (eqAtom_any l[k] m[k] _ _ _ _ _ (phterms.below' (Below.drew (Below.refl _ _))) (qhterms.below' (Below.drew (Below.refl _ _)))).mono ?_
          rintro e w1 ⟨rfl, hb1⟩
          have hb2 : Below w.heap.size w w1 := Below.trans hbel.drew (hb1.mono hbel.size)
          go_wp2
          go_roundw
          case rel => exact ⟨k + 1, by go_num, by omega, HS, hb2⟩
          case measure => simp [intOf]; omega
        · have Hfin := Lib.hid (ne_of_get hlt (by omega) he)
          have hne : decide (l[k] = m[k]) = false := by simp [he]
          clear he
          go_wp2
          have Hla := Lib.hid hla; clear hla
          refine wp_region_still_tail 8 (by kernel_rfl) (by kernel_rfl) ?_
          change wpStill _ _ (World.drew _) _ _ _
          simp only [List.take_succ_cons, List.take_zero, List.drop_succ_cons, List.drop_zero]
          iterate 8 still_step
          refine wpStill_nil ?_
          have hla := Hla.out
          change wpList _ _ _ _ _ wr.drew
          go_wp2_with fail
          refine (eqAtom_any l[k] m[k] _ _ _ _ _ (phterms.below' (Below.drew (Below.refl _ _))) (qhterms.below' (Below.drew (Below.refl _ _)))).mono ?_
          rintro e w1 ⟨rfl, hb1⟩
          have hb2 : Below w.heap.size w w1 := Below.trans hbel.drew (hb1.mono hbel.size)
          go_wp2
          go_ret
          exact ⟨ret_bool (by simp [Hfin.out]), hb2⟩
      · have hkl : k = l.length := by omega
        have Hfin := Lib.hid (eq_of_take Hlen.out (by have := HT.out; rw [hkl] at this; exact this))
        go_wp2
        go_ret
        exact ⟨ret_bool (by simp [Hfin.out]), hbel⟩
  · have hne0 : ((l.length : Int) != (m.length : Int)) = true := by simp; omega
    have Hfin := Lib.hid (show l ≠ m from fun h => hlen (by rw [h]))
    clear hlen
    go_enter Tryz.func128, Tryz.ntmps128
    go_wp2
    go_ret
    exact ⟨ret_bool (by simp [Hfin.out]), Below.refl _ _⟩
def markAtomD (k : Int) (x : AtomD) : AtomD := { rel := k, terms := marks (k + 1) x.terms.length }
def cntAtom (x : AtomD) : Nat := 1 + x.terms.length
set_option maxRecDepth 100000 in
set_option maxHeartbeats 1600000 in
theorem markAtomS_any (v : Value) (l : List AtomD) (f : List Nat) (k0 : Int) (w : World) (h : atoms w v l f) (hnd : f.Nodup) (hk0 : 0 ≤ k0) (hk1 : k0 + ((l.map cntAtom).sum : Nat) ≤ 1000000000) :
    Calls Tryz.prog 129 #[v, .int .i64 k0] w fun e w' => e = .returned (.int .i64 (k0 + ((l.map cntAtom).sum : Nat))) ∧ atoms w' v (markL markAtomD cntAtom k0 l) f ∧ Wrote f w w' := by
  obtain ⟨a, cap, rfl⟩ := slR.form h
  have hla := slR.le_max h
  go_enter Tryz.func129, Tryz.ntmps129
  go_wp2
  go_loopw [1, 5] (fun x i wr => ∃ j m : Nat, i = .int .i64 j ∧ j ≤ l.length ∧ x = .int .i64 (k0 + m) ∧ Hid (((l.map cntAtom).take j).sum = m) ∧ atoms wr (.slice a l.length cap) (markL markAtomD cntAtom k0 (l.take j) ++ l.drop j) f ∧ Wrote f w wr) (fun _ i _ => l.length - (intOf i).toNat)
  case atStart => exact ⟨0, 0, rfl, Nat.zero_le _, by simp, Lib.hid (by simp), by simpa [markL] using h, Wrote.refl _ _⟩
  case round =>
    obtain ⟨j, m, rfl, hj, rfl, HM, hr, hwr⟩ := hrel
    by_cases hlt : j < l.length
    · have hjl : j < (markL markAtomD cntAtom k0 (l.take j) ++ l.drop j).length := by simp [markL_length]; omega
      have hle : m + cntAtom l[j] ≤ (l.map cntAtom).sum := by have := sum_take_le (l.map cntAtom) j (by simpa using hlt) m HM.out; simpa using this
      have hcnt : cntAtom l[j] = 1 + l[j].terms.length := rfl
      have HS := Lib.hid (markL_step (mk := markAtomD) (cnt := cntAtom) k0 l j hlt m HM.out)
      have HN := Lib.hid (sum_take_step (l.map cntAtom) j (by simpa using hlt) m HM.out)
      obtain ⟨g, c, fi, rfl, ho, hR⟩ := slR.open good_atom hr hnd hjl
      rw [markL_at k0 l j hlt hjl] at hR
      obtain ⟨xterms, rfl, irel, hterms⟩ := hR
      have hmem := ho.mem
      clear hr h
      have hc0_0 : wr.cell? ⟨g, j * 2, none⟩ = _ := ho.cell (by omega) 0 _ rfl
      have hz0_0 := ho.frozen (by omega) (j * 2)
      have hc0_1 : wr.cell? ⟨g, j * 2 + 1, none⟩ = _ := ho.cell (by omega) 1 _ rfl
      have hz0_1 := ho.frozen (by omega) (j * 2 + 1)
      have ho0 := ho.store 0 (by decide) (.int .i64 (k0 + (m : Int)))
      have hterms_0 : ints (wr.setCell ⟨g, j * 2, none⟩ (.int .i64 (k0 + (m : Int)))) xterms _ fi := ints.far hterms (p := ⟨g, j * 2, none⟩) (fun hx => hmem.2.1 (by simp [hx])) _
      go_wp2_with fail
      refine (markIntS_any _ l[j].terms fi _ _ hterms_0 ⟨by omega, by omega⟩ (by omega)).mono ?_
      rintro e w1 ⟨rfl, hmterms, hw1⟩
      have ho1 := ho0.wrote hw1 (fun x hx => by simp [hx])
      have hs := ho1.shut (d := markAtomD (k0 + (m : Int)) l[j]) (by exact ⟨_, rfl, (by show I64 (k0 + (m : Int)); unfold I64; omega), hmterms⟩)
      rw [HS.out] at hs
      have hwr0 := Wrote.setCell hwr (p := ⟨g, j * 2, none⟩) hmem.1 (.int .i64 (k0 + (m : Int)))
      have hwr1 := Wrote.trans hwr0 (Wrote.mono hw1 (fun x hx => hmem.2.2.1 x (by simp [hx])))
      clear hmem ho
      go_wp2
      go_roundw
      case rel => exact ⟨j + 1, m + cntAtom l[j], by go_num, by omega, by rw [hcnt]; go_num, Lib.hid (by have := HN.out; simpa using this), hs, hwr1⟩
      case measure => simp [intOf]; omega
    · have hkl : j = l.length := by omega
      have HM2 := Lib.hid (show (l.map cntAtom).sum = m by have := HM.out; rw [hkl, List.take_of_length_le (by simp)] at this; exact this)
      have hr' : atoms wr (.slice a l.length cap) (markL markAtomD cntAtom k0 l) f := by rw [hkl] at hr; simpa using hr
      subst hkl
      clear hr
      go_wp2
      go_ret
      exact ⟨ret_int (by rw [HM2.out]), hr', hwr⟩
set_option maxRecDepth 100000 in
set_option maxHeartbeats 1600000 in
theorem heldAtomS_any (v : Value) (l : List AtomD) (f : List Nat) (k0 : Int) (w : World) (h : atoms w v (markL markAtomD cntAtom k0 l) f) (hk0 : 0 ≤ k0) (hk1 : k0 + ((l.map cntAtom).sum : Nat) ≤ 1000000000) :
    Calls Tryz.prog 131 #[v, .int .i64 k0] w fun e w' => e = .returned (.int .i64 (k0 + ((l.map cntAtom).sum : Nat))) ∧ Below w.heap.size w w' := by
  obtain ⟨a, cap, hv⟩ := slR.form h
  have hla := slR.le_max h
  rw [markL_length] at hv hla
  subst hv
  go_enter Tryz.func131, Tryz.ntmps131
  go_wp2
  go_loopw [1, 5] (fun x i wr => ∃ j m : Nat, i = .int .i64 j ∧ j ≤ l.length ∧ x = .int .i64 (k0 + m) ∧ Hid (((l.map cntAtom).take j).sum = m) ∧ Below w.heap.size w wr) (fun _ i _ => l.length - (intOf i).toNat)
  case atStart => exact ⟨0, 0, rfl, Nat.zero_le _, by simp, Lib.hid (by simp), Below.refl _ _⟩
  case round =>
    obtain ⟨j, m, rfl, hj, rfl, HM, hbel⟩ := hrel
    by_cases hlt : j < l.length
    · have hjl : j < (markL markAtomD cntAtom k0 l).length := by rw [markL_length]; exact hlt
      have hle : m + cntAtom l[j] ≤ (l.map cntAtom).sum := by have := sum_take_le (l.map cntAtom) j (by simpa using hlt) m HM.out; simpa using this
      have hcnt : cntAtom l[j] = 1 + l[j].terms.length := rfl
      have HN := Lib.hid (sum_take_step (l.map cntAtom) j (by simpa using hlt) m HM.out)
      obtain ⟨g, c, fi, rfl, hR, _, hc, _, _, _⟩ := slR.at (h.below' hbel) j hjl
      rw [markL_get k0 l j hlt m HM.out hjl] at hR
      obtain ⟨xterms, rfl, irel, hterms⟩ := hR
      have hc0 : wr.cell? ⟨g, j * 2, none⟩ = some (.int .i64 (k0 + (m : Int))) := hc 0 _ rfl
      have hc1 : wr.cell? ⟨g, j * 2 + 1, none⟩ = some xterms := hc 1 _ rfl
      have hne0 : ((k0 + (m : Int)) != (k0 + (m : Int))) = false := by simp
      have hhterms : ints wr xterms (marks (k0 + (m : Int) + 1) l[j].terms.length) fi := hterms
      clear hc
      go_wp2_with fail
      refine (heldIntS_any _ l[j].terms.length _ _ _ hhterms ⟨by omega, by omega⟩ (by omega)).mono ?_
      rintro e w1 ⟨rfl, hb1⟩
      have hB1 := Below.trans hbel (hb1.mono (Below.size hbel))
      have hb1_ : Below wr.heap.size wr w1 := hb1
      have hc0_1 : w1.cell? ⟨g, j * 2, none⟩ = _ := cell_below hc0 hb1_
      have hc1_1 : w1.cell? ⟨g, j * 2 + 1, none⟩ = _ := cell_below hc1 hb1_
      go_wp2
      go_roundw
      case rel => exact ⟨j + 1, m + cntAtom l[j], by go_num, by omega, by rw [hcnt]; go_num, Lib.hid (by have := HN.out; simpa using this), hB1⟩
      case measure => simp [intOf]; omega
    · have hkl : j = l.length := by omega
      have HM2 := Lib.hid (show (l.map cntAtom).sum = m by have := HM.out; rw [hkl, List.take_of_length_le (by simp)] at this; exact this)
      subst hkl
      go_wp2
      go_ret
      exact ⟨ret_int (by rw [HM2.out]), hbel⟩
end Go.Proofs.YtojjojcmemifhaaGreatDoor
/- The laws' helpers at Step and at slices of it: size, copy, comparison, marks, marks held. Conditions: the sizes that the laws themselves ask. -/
namespace Go.Proofs.YtojjojcmemifhaaGreatDoor
open Go.RowKit
set_option linter.unusedVariables false
set_option linter.unusedSimpArgs false
end Go.Proofs.YtojjojcmemifhaaGreatDoor
/- The laws' helpers at [][]int: size, copy, comparison, marks, marks held. Conditions: the sizes that the laws themselves ask. -/
namespace Go.Proofs.YtojjojcmemifhaaGreatDoor
open Go.RowKit
set_option linter.unusedVariables false
set_option linter.unusedSimpArgs false
end Go.Proofs.YtojjojcmemifhaaGreatDoor
