/- IsFact and IsAtom, of the program and of the reference, and what they call. No condition. -/
import Derived.Test.YtpdmdfkcaabnaaaGreatCalc
import Derived.Test.YtpdmdfkcaabnaaaGreatIdxInt
import Derived.IntWalk
namespace Go.Proofs.YtpdmdfkcaabnaaaGreat
open Go.RowKit
set_option linter.unusedVariables false
set_option linter.unusedSimpArgs false
theorem retB {P : Program} {f : FuncId} {args : Array Value} {w : World} {b c : Bool} (h : Calls P f args w fun e w' => e = .returned (.bool b) ∧ w = w') (hb : b = c) : Calls P f args w fun e w' => e = .returned (.bool c) ∧ w = w' := hb ▸ h
theorem hasRel_nat {s : List Int} {r : Int} (h : hasRelB s r = true) : schemaB s = true ∧ inR r 0 ((s.length : Int) - 1) = true ∧ ∃ k : Nat, r = k ∧ k < s.length := by
  unfold hasRelB at h
  rw [Bool.and_eq_true] at h
  have h2 := inR_true h.2
  obtain ⟨k, rfl⟩ := Int.eq_ofNat_of_zero_le h2.1
  exact ⟨h.1, h.2, k, rfl, by omega⟩
theorem arity_nat {s : List Int} {k : Nat} (h : k < s.length) : arity s (k : Int) = s[k] := by
  unfold arity; rw [Int.toNat_natCast, getD_lt h]
theorem areTerms1_any (x : Int) (w : World) :
    Calls Tryz.prog 82 #[.int .i64 x] w fun e w' => e = .returned (.bool (!isTermB x)) ∧ w = w' := by
  go_enter Tryz.func82, Tryz.ntmps82
  go_wp2_with (go_at_call 83; refine (f83_any _ _).mono ?_; rintro e w' ⟨rfl, rfl⟩)
  go_ret
  exact ⟨rfl, rfl⟩
theorem areTerms_any (v : Value) (l : List Int) (f : List Nat) (w : World) (h : ints w v l f) :
    Calls Tryz.prog 74 #[v] w fun e w' => e = .returned (.bool (!(l.any fun n => !isTermB n))) ∧ w = w' := by
  obtain ⟨a, cap, rfl⟩ := slR.form h
  have hP := plain_of Tryz.func82 (by kernel_rfl) (by kernel_rfl)
  go_enter Tryz.func74, Tryz.ntmps74
  go_wp2_with fail
  refine (containsFuncIntQ_any _ hP #[] (fun x => #[.int .i64 x]) (fun _ => rfl) (fun n => !isTermB n) _ l f _ h (fun i hi => areTerms1_any _ _)).mono ?_
  rintro e w1 ⟨rfl, rfl⟩
  go_wp2
  go_ret
  exact ⟨rfl, rfl⟩
theorem hasRel_any (v : Value) (s : List Int) (f : List Nat) (r : Int) (w : World) (h : ints w v s f) :
    Calls Tryz.prog 71 #[v, .int .i64 r] w fun e w' => e = .returned (.bool (hasRelB s r)) ∧ w = w' := by
  obtain ⟨a, cap, rfl⟩ := slR.form h
  have hla := slR.le_max h
  cases hs : schemaB s with
  | false =>
    have Hf := Lib.hid (show hasRelB s r = false by unfold hasRelB; rw [hs]; rfl)
    go_enter Tryz.func71, Tryz.ntmps71
    go_wp2_with (go_at_call 54; refine (implIsSchema_any _ s f _ h).mono ?_; rintro e w' ⟨rfl, rfl⟩)
    go_ret
    exact ⟨ret_bool (by rw [Hf.out]), rfl⟩
  | true =>
    have Hf := Lib.hid (show hasRelB s r = inR r 0 ((s.length : Int) - 1) by unfold hasRelB; rw [hs]; rfl)
    go_enter Tryz.func71, Tryz.ntmps71
    go_wp2_with (first
      | (go_at_call 54; refine (implIsSchema_any _ s f _ h).mono ?_; rintro e w' ⟨rfl, rfl⟩)
      | (go_at_call 58; refine (f58_any _ _ _ _).mono ?_; rintro e w' ⟨rfl, rfl⟩))
    go_ret
    exact ⟨ret_bool (by rw [Hf.out]), rfl⟩

set_option maxRecDepth 100000 in
set_option maxHeartbeats 800000 in
theorem implIsAtom_any (sv : Value) (s : List Int) (fs : List Nat) (x : AtomD) (vv : Value) (fv : List Nat) (w : World) (hs : ints w sv s fs) (hx : ints w vv x.terms fv) :
    Calls Tryz.prog 61 #[sv, .agg #[.int .i64 x.rel, vv]] w fun e w' => e = .returned (.bool (atomB s x)) ∧ Below w.heap.size w w' := by
  obtain ⟨rel, vals⟩ := x
  obtain ⟨a, cap, rfl⟩ := slR.form hs
  obtain ⟨b, cap', rfl⟩ := slR.form hx
  have hla := slR.le_max hs
  have hlb := slR.le_max hx
  have hw1 : IntKind.i64.wrap ((s.length : Int) - 1) = (s.length : Int) - 1 := IntWalk.i64_in _ (by omega)
  have hs' := fun o => hs.al o
  have hx' := fun o => hx.al o
  cases hr : hasRelB s rel with
  | false =>
    have Hf := Lib.hid (show atomB s ⟨rel, vals⟩ = false by unfold atomB; rw [hr]; rfl)
    go_enter Tryz.func61, Tryz.ntmps61
    go_wp2
    go_quiet ((first
        | (go_at_call 71; exact qEq (retB (hasRel_any _ s fs _ _ ((hs' _).dn _)) hr))
        | (go_at_call 74; exact qEq (areTerms_any _ vals fv _ ((hx' _).dn _)))))
    go_wp2
    go_ret
    exact ⟨ret_bool (by rw [Hf.out]), by repeat (first | exact Below.refl _ _ | refine bdn ?_ | refine ba ?_)⟩
  | true =>
    obtain ⟨_, _, k, rfl, hk⟩ := hasRel_nat hr
    have Hr := Lib.hid hr
    obtain ⟨g, rfl, hc, _, _, hfg⟩ := hs.get k hk
    have Hfg := Lib.hid hfg
    have hca := fun o => cell_al hc o
    clear hfg hc
    have hk0 : (0 : Int) ≤ (k : Int) := Int.natCast_nonneg _
    have hk1 : (k : Int) < (s.length : Int) := by omega
    by_cases hlen : (vals.length : Int) = s[k]
    · have Hf := Lib.hid (show atomB s ⟨k, vals⟩ = !(vals.any fun n => !isTermB n) by unfold atomB; rw [hr, arity_nat hk, decide_eq_true hlen]; simp)
      have hd : ((vals.length : Int) == s[k]) = true := by simp [hlen]
      clear hlen
      go_enter Tryz.func61, Tryz.ntmps61
      go_wp2
      go_quiet ((first
        | (go_at_call 71; exact qEq (retB (hasRel_any _ s fs _ _ ((hs' _).dn _)) hr))
        | (go_at_call 74; exact qEq (areTerms_any _ vals fv _ ((hx' _).dn _)))))
      go_wp2
      go_ret
      exact ⟨ret_bool (by rw [Hf.out]), by repeat (first | exact Below.refl _ _ | refine bdn ?_ | refine ba ?_)⟩
    · have Hf := Lib.hid (show atomB s ⟨k, vals⟩ = false by unfold atomB; rw [hr, arity_nat hk, decide_eq_false hlen]; simp)
      have hd : ((vals.length : Int) == s[k]) = false := by simp [hlen]
      clear hlen
      go_enter Tryz.func61, Tryz.ntmps61
      go_wp2
      go_quiet ((first
        | (go_at_call 71; exact qEq (retB (hasRel_any _ s fs _ _ ((hs' _).dn _)) hr))
        | (go_at_call 74; exact qEq (areTerms_any _ vals fv _ ((hx' _).dn _)))))
      go_wp2
      go_ret
      exact ⟨ret_bool (by rw [Hf.out]), by repeat (first | exact Below.refl _ _ | refine bdn ?_ | refine ba ?_)⟩
set_option maxRecDepth 100000 in
set_option maxHeartbeats 800000 in
theorem specIsAtom_any (sv : Value) (s : List Int) (fs : List Nat) (x : AtomD) (vv : Value) (fv : List Nat) (w : World) (hs : ints w sv s fs) (hx : ints w vv x.terms fv) :
    Calls Tryz.prog 49 #[sv, .agg #[.int .i64 x.rel, vv]] w fun e w' => e = .returned (.bool (atomB s x)) ∧ Below w.heap.size w w' := by
  obtain ⟨rel, vals⟩ := x
  obtain ⟨a, cap, rfl⟩ := slR.form hs
  obtain ⟨b, cap', rfl⟩ := slR.form hx
  have hla := slR.le_max hs
  have hlb := slR.le_max hx
  have hw1 : IntKind.i64.wrap ((s.length : Int) - 1) = (s.length : Int) - 1 := IntWalk.i64_in _ (by omega)
  have hs' := fun o => hs.al o
  have hx' := fun o => hx.al o
  cases hsc : schemaB s with
  | false =>
    have Hf := Lib.hid (show atomB s ⟨rel, vals⟩ = false by unfold atomB hasRelB; rw [hsc]; rfl)
    go_enter Tryz.func49, Tryz.ntmps49
    go_wp2
    go_quiet ((first
        | (go_at_call 48; exact qEq (retB (specIsSchema_any _ s fs _ ((hs' _).dn _)) hsc))
        | (go_at_call 39; exact qEq (retB (f39_any _ _ _ _) hin))))
    go_wp2
    go_ret
    exact ⟨ret_bool (by rw [Hf.out]), by repeat (first | exact Below.refl _ _ | refine bdn ?_ | refine ba ?_)⟩
  | true =>
    cases hin : inR rel 0 ((s.length : Int) - 1) with
    | false =>
      have Hf := Lib.hid (show atomB s ⟨rel, vals⟩ = false by unfold atomB hasRelB; rw [hsc, hin]; rfl)
      go_enter Tryz.func49, Tryz.ntmps49
      go_wp2
      go_quiet ((first
        | (go_at_call 48; exact qEq (retB (specIsSchema_any _ s fs _ ((hs' _).dn _)) hsc))
        | (go_at_call 39; exact qEq (retB (f39_any _ _ _ _) hin))))
      go_wp2
      go_ret
      exact ⟨ret_bool (by rw [Hf.out]), by repeat (first | exact Below.refl _ _ | refine bdn ?_ | refine ba ?_)⟩
    | true =>
      have hr : hasRelB s rel = true := by unfold hasRelB; rw [hsc, hin]; rfl
      obtain ⟨_, _, k, rfl, hk⟩ := hasRel_nat hr
      obtain ⟨g, rfl, hc, _, _, hfg⟩ := hs.get k hk
      have Hfg := Lib.hid hfg
      have Hr := Lib.hid hr
      have hca := fun o => cell_al hc o
      clear hfg hr hc
      have hk0 : (0 : Int) ≤ (k : Int) := Int.natCast_nonneg _
      have hk1 : (k : Int) < (s.length : Int) := by omega
      by_cases hlen : (vals.length : Int) = s[k]
      · have Hf := Lib.hid (show atomB s ⟨k, vals⟩ = !(vals.any fun n => !isTermB n) by unfold atomB; rw [Hr.out, arity_nat hk, decide_eq_true hlen]; simp)
        have hd2 : ((vals.length : Int) != s[k]) = false := by simp [hlen]
        clear hlen
        go_enter Tryz.func49, Tryz.ntmps49
        go_wp2
        go_quiet ((first
        | (go_at_call 48; exact qEq (retB (specIsSchema_any _ s fs _ ((hs' _).dn _)) hsc))
        | (go_at_call 39; exact qEq (retB (f39_any _ _ _ _) hin))))
        go_wp2
        go_loop [5] (fun i => ∃ k : Nat, i = .int .i64 k ∧ k ≤ vals.length ∧ Hid (∀ j (hj : j < vals.length), j < k → (!isTermB vals[j]) = false)) (fun i => vals.length - (intOf i).toNat)
        case atStart => exact ⟨0, rfl, Nat.zero_le _, Lib.hid (fun j hj h0 => by omega)⟩
        case round =>
          obtain ⟨j, rfl, hj, HN⟩ := hrel
          by_cases hlt : j < vals.length
          · obtain ⟨g2, rfl, hc2, _, _, _⟩ := (hx' (.cells #[.int .i64 (k : Int), .slice b vals.length cap'] 75)).get j hlt
            cases hp : isTermB vals[j] with
            | false =>
              have hq := hp
              have Hf2 := Lib.hid (Hf.out.trans (show (!(vals.any fun n => !isTermB n)) = false by rw [any_true_of (p := fun n => !isTermB n) hlt (by simp [hp])]; rfl))
              go_wp2_with (go_at_call 68; refine (f68_any _ _).mono ?_; rintro e w' ⟨rfl, rfl⟩)
              go_ret
              exact ⟨ret_bool (by rw [Hf2.out]), by repeat (first | exact Below.refl _ _ | refine bdn ?_ | refine ba ?_)⟩
            | true =>
              have hq := hp
              have HN2 := Lib.hid (none_step (p := fun n => !isTermB n) HN.out hlt (by simp [hp]))
              go_wp2_with (go_at_call 68; refine (f68_any _ _).mono ?_; rintro e w' ⟨rfl, rfl⟩)
              go_round
              case rel => exact ⟨j + 1, by go_num, by omega, HN2⟩
              case measure => simp [intOf]; omega
          · have hjl : j = vals.length := by omega
            have Hf2 := Lib.hid (Hf.out.trans (show (!(vals.any fun n => !isTermB n)) = true by rw [any_false_of (p := fun n => !isTermB n) (fun i hi => HN.out i hi (by omega))]; rfl))
            go_wp2
            go_ret
            exact ⟨ret_bool (by rw [Hf2.out]), by repeat (first | exact Below.refl _ _ | refine bdn ?_ | refine ba ?_)⟩
      · have Hf := Lib.hid (show atomB s ⟨k, vals⟩ = false by unfold atomB; rw [Hr.out, arity_nat hk, decide_eq_false hlen]; simp)
        have hd2 : ((vals.length : Int) != s[k]) = true := by simp [hlen]
        clear hlen
        go_enter Tryz.func49, Tryz.ntmps49
        go_wp2
        go_quiet ((first
        | (go_at_call 48; exact qEq (retB (specIsSchema_any _ s fs _ ((hs' _).dn _)) hsc))
        | (go_at_call 39; exact qEq (retB (f39_any _ _ _ _) hin))))
        go_wp2
        go_ret
        exact ⟨ret_bool (by rw [Hf.out]), by repeat (first | exact Below.refl _ _ | refine bdn ?_ | refine ba ?_)⟩
end Go.Proofs.YtpdmdfkcaabnaaaGreat
