/- IsFact and IsAtom, of the program and of the reference, and what they call. No condition. -/
import Derived.Test.YtkjlfhccjpimcaaDoorCalc
import Derived.Test.YtkjlfhccjpimcaaDoorIdxInt
import Derived.IntWalk
namespace Go.Proofs.YtkjlfhccjpimcaaDoor
open Go.RowKit
set_option linter.unusedVariables false
set_option linter.unusedSimpArgs false
theorem retB {P : Program} {f : FuncId} {args : Array Value} {w : World} {b c : Bool} (h : Calls P f args w fun e w' => e = .returned (.bool b) ∧ w = w') (hb : b = c) : Calls P f args w fun e w' => e = .returned (.bool c) ∧ w = w' := hb ▸ h
theorem hasRel_nat {s : List Int} {r : Int} (h : hasRelB s r = true) : schemaB s = true ∧ inR r 0 ((s.length : Int) - 1) = true ∧ ∃ k : Nat, r = k ∧ k < s.length := by
  unfold hasRelB at h
  rw [Bool.and_eq_true] at h
  have h2 := inR_true h.2
  obtain ⟨k, rfl⟩ := Int.eq_ofNat_of_zero_le h2.1
  exact ⟨h.1, h.2, k, rfl, by omega⟩
theorem arity_nat {s : List Int} {k : Nat} (h : k < s.length) : arity s (k : Int) = s[k] := by
  unfold arity; rw [Int.toNat_natCast, getD_lt h]
theorem areTerms1_any (x : Int) (w : World) :
    Calls Tryd.prog 109 #[.int .i64 x] w fun e w' => e = .returned (.bool (!isTermB x)) ∧ w = w' := by
  go_enter Tryd.func109, Tryd.ntmps109
  go_wp2_with (go_at_call 110; refine (f110_any _ _).mono ?_; rintro e w' ⟨rfl, rfl⟩)
  go_ret
  exact ⟨rfl, rfl⟩
theorem areTerms_any (v : Value) (l : List Int) (f : List Nat) (w : World) (h : ints w v l f) :
    Calls Tryd.prog 85 #[v] w fun e w' => e = .returned (.bool (!(l.any fun n => !isTermB n))) ∧ w = w' := by
  obtain ⟨a, cap, rfl⟩ := slR.form h
  have hP := plain_of Tryd.func109 (by kernel_rfl) (by kernel_rfl)
  go_enter Tryd.func85, Tryd.ntmps85
  go_wp2_with fail
  refine (containsFuncIntQ_any _ hP #[] (fun x => #[.int .i64 x]) (fun _ => rfl) (fun n => !isTermB n) _ l f _ h (fun i hi => areTerms1_any _ _)).mono ?_
  rintro e w1 ⟨rfl, rfl⟩
  go_wp2
  go_ret
  exact ⟨rfl, rfl⟩
theorem hasRel_any (v : Value) (s : List Int) (f : List Nat) (r : Int) (w : World) (h : ints w v s f) :
    Calls Tryd.prog 100 #[v, .int .i64 r] w fun e w' => e = .returned (.bool (hasRelB s r)) ∧ w = w' := by
  obtain ⟨a, cap, rfl⟩ := slR.form h
  have hla := slR.le_max h
  cases hs : schemaB s with
  | false =>
    have Hf := Lib.hid (show hasRelB s r = false by unfold hasRelB; rw [hs]; rfl)
    go_enter Tryd.func100, Tryd.ntmps100
    go_wp2_with (go_at_call 121; refine (implIsSchema_any _ s f _ h).mono ?_; rintro e w' ⟨rfl, rfl⟩)
    go_ret
    exact ⟨ret_bool (by rw [Hf.out]), rfl⟩
  | true =>
    have Hf := Lib.hid (show hasRelB s r = inR r 0 ((s.length : Int) - 1) by unfold hasRelB; rw [hs]; rfl)
    go_enter Tryd.func100, Tryd.ntmps100
    go_wp2_with (first
      | (go_at_call 121; refine (implIsSchema_any _ s f _ h).mono ?_; rintro e w' ⟨rfl, rfl⟩)
      | (go_at_call 36; refine (f36_any _ _ _ _).mono ?_; rintro e w' ⟨rfl, rfl⟩))
    go_ret
    exact ⟨ret_bool (by rw [Hf.out]), rfl⟩

end Go.Proofs.YtkjlfhccjpimcaaDoor
