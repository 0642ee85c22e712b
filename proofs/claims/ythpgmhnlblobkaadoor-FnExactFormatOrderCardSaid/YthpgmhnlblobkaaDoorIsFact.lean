/- IsFact and IsAtom, of the program and of the reference, and what they call. No condition. -/
import Derived.Test.YthpgmhnlblobkaaDoorCalc
import Derived.Test.YthpgmhnlblobkaaDoorIdxInt
import Derived.IntWalk
namespace Go.Proofs.YthpgmhnlblobkaaDoor
open Go.RowKit
set_option linter.unusedVariables false
set_option linter.unusedSimpArgs false
theorem retB {P : Program} {f : FuncId} {args : Array Value} {w : World} {b c : Bool} (h : Calls P f args w fun e w' => e = .returned (.bool b) ∧ w = w') (hb : b = c) : Calls P f args w fun e w' => e = .returned (.bool c) ∧ w = w' := hb ▸ h
theorem hasRel_nat {s : List Int} {r : Int} (h : hasRelB s r = true) : schemaB s = true ∧ inR r 0 ((s.length : Int) - 1) = true ∧ ∃ k : Nat, r = k ∧ k < s.length := by
  unfold hasRelB at h
  rw [Bool.and_eq_true] at h
  have h2 := inR_true h.2
  obtain ⟨k, rfl⟩ := Int.eq_ofNat_of_zero_le h2.1
  exact ⟨h.1, h.2, k, rfl, by omega⟩
theorem arity_nat {s : List Int} {k : Nat} (h : k < s.length) : arity s (k : Int) = s[k] := by
  unfold arity; rw [Int.toNat_natCast, getD_lt h]
theorem areValues1_any (x : Int) (w : World) :
    Calls Tryd.prog 103 #[.int .i64 x] w fun e w' => e = .returned (.bool (!isVal x)) ∧ w = w' := by
  go_enter Tryd.func103, Tryd.ntmps103
  go_wp2_with (go_at_call 104; refine (f104_any _ _).mono ?_; rintro e w' ⟨rfl, rfl⟩)
  go_ret
  exact ⟨rfl, rfl⟩
theorem areValues_any (v : Value) (l : List Int) (f : List Nat) (w : World) (h : ints w v l f) :
    Calls Tryd.prog 76 #[v] w fun e w' => e = .returned (.bool (!(l.any fun n => !isVal n))) ∧ w = w' := by
  obtain ⟨a, cap, rfl⟩ := slR.form h
  have hP := plain_of Tryd.func103 (by kernel_rfl) (by kernel_rfl)
  go_enter Tryd.func76, Tryd.ntmps76
  go_wp2_with fail
  refine (containsFuncIntQ_any _ hP #[] (fun x => #[.int .i64 x]) (fun _ => rfl) (fun n => !isVal n) _ l f _ h (fun i hi => areValues1_any _ _)).mono ?_
  rintro e w1 ⟨rfl, rfl⟩
  go_wp2
  go_ret
  exact ⟨rfl, rfl⟩
theorem areTerms1_any (x : Int) (w : World) :
    Calls Tryd.prog 107 #[.int .i64 x] w fun e w' => e = .returned (.bool (!isTermB x)) ∧ w = w' := by
  go_enter Tryd.func107, Tryd.ntmps107
  go_wp2_with (go_at_call 108; refine (f108_any _ _).mono ?_; rintro e w' ⟨rfl, rfl⟩)
  go_ret
  exact ⟨rfl, rfl⟩
theorem areTerms_any (v : Value) (l : List Int) (f : List Nat) (w : World) (h : ints w v l f) :
    Calls Tryd.prog 80 #[v] w fun e w' => e = .returned (.bool (!(l.any fun n => !isTermB n))) ∧ w = w' := by
  obtain ⟨a, cap, rfl⟩ := slR.form h
  have hP := plain_of Tryd.func107 (by kernel_rfl) (by kernel_rfl)
  go_enter Tryd.func80, Tryd.ntmps80
  go_wp2_with fail
  refine (containsFuncIntQ_any _ hP #[] (fun x => #[.int .i64 x]) (fun _ => rfl) (fun n => !isTermB n) _ l f _ h (fun i hi => areTerms1_any _ _)).mono ?_
  rintro e w1 ⟨rfl, rfl⟩
  go_wp2
  go_ret
  exact ⟨rfl, rfl⟩

end Go.Proofs.YthpgmhnlblobkaaDoor
