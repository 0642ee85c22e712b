/- UsesOf, costOf, OrderCost, LogCost, IsExact, of the program and of the reference. No condition. -/
import Derived.Test.YtojjojcmemifhaaDoorIdxS
import Derived.Test.YtojjojcmemifhaaDoorCompare
import Derived.Test.YtojjojcmemifhaaDoorFacts0
namespace Go.Proofs.YtojjojcmemifhaaDoor
open Go.RowKit
set_option linter.unusedVariables false
set_option linter.unusedSimpArgs false
/-- How many accesses are by a method. -/
def usesL (l : List AccD) (m : Int) : Nat := (l.filter fun a => a.meth == m).length
theorem usesL_yes {l : List AccD} {m : Int} {k : Nat} (hk : k < l.length) (h : (l[k].meth == m) = true) : usesL (l.take (k + 1)) m = usesL (l.take k) m + 1 := by
  unfold usesL; rw [List.take_succ_eq_append_getElem hk, List.filter_append]; simp [h]
theorem usesL_no {l : List AccD} {m : Int} {k : Nat} (hk : k < l.length) (h : (l[k].meth == m) = false) : usesL (l.take (k + 1)) m = usesL (l.take k) m := by
  unfold usesL; rw [List.take_succ_eq_append_getElem hk, List.filter_append]; simp [h]
theorem usesL_le (l : List AccD) (m : Int) (k : Nat) : usesL (l.take k) m ≤ k := by
  unfold usesL; exact Nat.le_trans (List.length_filter_le _ _) (List.length_take_le _ _)
theorem in_nat {i : Int} {n : Nat} (h : inR i 0 ((n : Int) - 1) = true) : ∃ k : Nat, i = k ∧ k < n := by
  have h2 := inR_true h
  obtain ⟨k, rfl⟩ := Int.eq_ofNat_of_zero_le h2.1
  exact ⟨k, rfl, by omega⟩
theorem isCost_any (x : Int) (w : World) : Calls Tryd.prog 49 #[.int .i64 x] w fun e w' => e = .returned (.bool (inR x 0 99)) ∧ w = w' := by
  go_enter Tryd.func49, Tryd.ntmps49
  go_wp2_with (go_at_call 31; refine (f31_any _ _ _ _).mono ?_; rintro e w' ⟨rfl, rfl⟩)
  go_ret
  exact ⟨rfl, rfl⟩

end Go.Proofs.YtojjojcmemifhaaDoor
