/- The contracts of the small functions on integers: is a number in a range, a variable, a term. No condition. -/
import Derived.Test.YtkhihnoeapfaaaaChecked
import Derived.WalkKit
import Derived.ProofKit
import Derived.Lib.Hide
import Derived.Outline
namespace Go.Proofs.Ytkhihnoeapfaaaa
open Go.RowKit
set_option linter.unusedVariables false
set_option linter.unusedSimpArgs false

/-- Is a number in a range. -/
def inR (x lo hi : Int) : Bool := decide (lo ≤ x) && decide (x ≤ hi)
theorem inR_true {x lo hi : Int} (h : inR x lo hi = true) : lo ≤ x ∧ x ≤ hi := by simpa [inR] using h
theorem inR_false {x lo hi : Int} (h : inR x lo hi = false) : lo ≤ x → hi < x := by simpa [inR] using h
theorem ret_bool {a b : Bool} (h : a = b) : Ending.returned (.bool a) = .returned (.bool b) := by rw [h]
theorem ret_int {k : IntKind} {a b : Int} (h : a = b) : Ending.returned (.int k a) = .returned (.int k b) := by rw [h]

theorem ret_str {a b : ByteArray} (h : a = b) : Ending.returned (.string a) = .returned (.string b) := by rw [h]

theorem f147_any (x lo hi : Int) (w : World) :
    Calls Try.prog 147 #[.int .i64 x, .int .i64 lo, .int .i64 hi] w fun e w' => e = .returned (.bool (inR x lo hi)) ∧ w = w' := by
  by_cases h1 : lo ≤ x <;> by_cases h2 : x ≤ hi <;>
  · go_enter Try.func147, Try.ntmps147
    go_wp2
    go_ret
    exact ⟨ret_bool (by simp [inR]; try omega), rfl⟩
theorem f148_any (x lo hi : Int) (w : World) :
    Calls Try.prog 148 #[.int .i64 x, .int .i64 lo, .int .i64 hi] w fun e w' => e = .returned (.bool (inR x lo hi)) ∧ w = w' := by
  by_cases h1 : lo ≤ x <;> by_cases h2 : x ≤ hi <;>
  · go_enter Try.func148, Try.ntmps148
    go_wp2
    go_ret
    exact ⟨ret_bool (by simp [inR]; try omega), rfl⟩

/-- Is a number a value. -/
def isVal (x : Int) : Bool := inR x 0 9
/-- Is a number a variable. -/
def isVarB (x : Int) : Bool := inR x 10 17
/-- Is a number a term. -/
def isTermB (x : Int) : Bool := isVal x || isVarB x
theorem f209_any (x : Int) (w : World) :
    Calls Try.prog 209 #[.int .i64 x] w fun e w' => e = .returned (.bool (isVal x)) ∧ w = w' := by
  go_enter Try.func209, Try.ntmps209
  go_wp2_with (go_at_call 148; refine (f148_any _ _ _ _).mono ?_; rintro e w' ⟨rfl, rfl⟩)
  go_ret
  exact ⟨rfl, rfl⟩
theorem f156_any (x : Int) (w : World) :
    Calls Try.prog 156 #[.int .i64 x] w fun e w' => e = .returned (.bool (isVarB x)) ∧ w = w' := by
  go_enter Try.func156, Try.ntmps156
  go_wp2_with (go_at_call 148; refine (f148_any _ _ _ _).mono ?_; rintro e w' ⟨rfl, rfl⟩)
  go_ret
  exact ⟨rfl, rfl⟩
theorem f155_any (x : Int) (w : World) :
    Calls Try.prog 155 #[.int .i64 x] w fun e w' => e = .returned (.bool (isVarB x)) ∧ w = w' := by
  go_enter Try.func155, Try.ntmps155
  go_wp2_with (go_at_call 147; refine (f147_any _ _ _ _).mono ?_; rintro e w' ⟨rfl, rfl⟩)
  go_ret
  exact ⟨rfl, rfl⟩
theorem f220_any (x : Int) (w : World) :
    Calls Try.prog 220 #[.int .i64 x] w fun e w' => e = .returned (.bool (isTermB x)) ∧ w = w' := by
  go_enter Try.func220, Try.ntmps220
  go_wp2_with (first
    | (go_at_call 209; refine (f209_any _ _).mono ?_; rintro e w' ⟨rfl, rfl⟩)
    | (go_at_call 156; refine (f156_any _ _).mono ?_; rintro e w' ⟨rfl, rfl⟩))
  all_goals
    go_ret
    exact ⟨ret_bool (by simp [isTermB, *]), rfl⟩
theorem f160_any (x : Int) (w : World) :
    Calls Try.prog 160 #[.int .i64 x] w fun e w' => e = .returned (.bool (isTermB x)) ∧ w = w' := by
  go_enter Try.func160, Try.ntmps160
  go_wp2_with (first
    | (go_at_call 147; refine (f147_any _ _ _ _).mono ?_; rintro e w' ⟨rfl, rfl⟩)
    | (go_at_call 155; refine (f155_any _ _).mono ?_; rintro e w' ⟨rfl, rfl⟩))
  all_goals
    go_ret
    exact ⟨ret_bool (by simp [isTermB, isVal, *]), rfl⟩
end Go.Proofs.Ytkhihnoeapfaaaa
