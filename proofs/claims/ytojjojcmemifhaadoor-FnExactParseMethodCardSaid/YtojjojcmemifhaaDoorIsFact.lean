/- IsFact and IsAtom, of the program and of the reference, and what they call. No condition. -/
import Derived.Test.YtojjojcmemifhaaDoorCalc
import Derived.Test.YtojjojcmemifhaaDoorIdxInt
import Derived.IntWalk
namespace Go.Proofs.YtojjojcmemifhaaDoor
open Go.RowKit
set_option linter.unusedVariables false
set_option linter.unusedSimpArgs false
theorem retB {P : Program} {f : FuncId} {args : Array Value} {w : World} {b c : Bool} (h : Calls P f args w fun e w' => e = .returned (.bool b) ∧ w = w') (hb : b = c) : Calls P f args w fun e w' => e = .returned (.bool c) ∧ w = w' := hb ▸ h
theorem hasRel_nat {s : List Int} {r : Int} (h : hasRelB s r = true) : schemaB s = true ∧ inR r 0 ((s.length : Int) - 1) = true ∧ ∃ k : Nat, r = k ∧ k < s.length := by
  unfold hasRelB at h
  rw [Bool.and_eq_true] at h
  have h2 := inR_true h.2
  obtain ⟨k, rfl⟩ := Int.eq_ofNat_of_zero_le h2.1
  exact ⟨h.1, h.2, k, rfl, by omega⟩
theorem arity_nat {s : List Int} {k : Nat} (h : k < s.length) : arity s (k : Int) = s[k] := by
  unfold arity; rw [Int.toNat_natCast, getD_lt h]
theorem hasRel_any (v : Value) (s : List Int) (f : List Nat) (r : Int) (w : World) (h : ints w v s f) :
    Calls Tryd.prog 34 #[v, .int .i64 r] w fun e w' => e = .returned (.bool (hasRelB s r)) ∧ w = w' := by
  obtain ⟨a, cap, rfl⟩ := slR.form h
  have hla := slR.le_max h
  cases hs : schemaB s with
  | false =>
    have Hf := Lib.hid (show hasRelB s r = false by unfold hasRelB; rw [hs]; rfl)
    go_enter Tryd.func34, Tryd.ntmps34
    go_wp2_with (go_at_call 45; refine (implIsSchema_any _ s f _ h).mono ?_; rintro e w' ⟨rfl, rfl⟩)
    go_ret
    exact ⟨ret_bool (by rw [Hf.out]), rfl⟩
  | true =>
    have Hf := Lib.hid (show hasRelB s r = inR r 0 ((s.length : Int) - 1) by unfold hasRelB; rw [hs]; rfl)
    go_enter Tryd.func34, Tryd.ntmps34
    go_wp2_with (first
      | (go_at_call 45; refine (implIsSchema_any _ s f _ h).mono ?_; rintro e w' ⟨rfl, rfl⟩)
      | (go_at_call 31; refine (f31_any _ _ _ _).mono ?_; rintro e w' ⟨rfl, rfl⟩))
    go_ret
    exact ⟨ret_bool (by rw [Hf.out]), rfl⟩

end Go.Proofs.YtojjojcmemifhaaDoor
