/- UsesOf, costOf, OrderCost, LogCost, IsExact, of the program and of the reference. No condition. -/
import Derived.Test.YtpdmdfkcaabnaaaGreatDoorIdxS
import Derived.Test.YtpdmdfkcaabnaaaGreatDoorCompare
import Derived.Test.YtpdmdfkcaabnaaaGreatDoorMB
namespace Go.Proofs.YtpdmdfkcaabnaaaGreatDoor
open Go.RowKit
set_option linter.unusedVariables false
set_option linter.unusedSimpArgs false
/-- How many accesses are by a method. -/
def usesL (l : List AccD) (m : Int) : Nat := (l.filter fun a => a.meth == m).length
theorem usesL_yes {l : List AccD} {m : Int} {k : Nat} (hk : k < l.length) (h : (l[k].meth == m) = true) : usesL (l.take (k + 1)) m = usesL (l.take k) m + 1 := by
  unfold usesL; rw [List.take_succ_eq_append_getElem hk, List.filter_append]; simp [h]
theorem usesL_no {l : List AccD} {m : Int} {k : Nat} (hk : k < l.length) (h : (l[k].meth == m) = false) : usesL (l.take (k + 1)) m = usesL (l.take k) m := by
  unfold usesL; rw [List.take_succ_eq_append_getElem hk, List.filter_append]; simp [h]
theorem usesL_le (l : List AccD) (m : Int) (k : Nat) : usesL (l.take k) m ≤ k := by
  unfold usesL; exact Nat.le_trans (List.length_filter_le _ _) (List.length_take_le _ _)
theorem in_nat {i : Int} {n : Nat} (h : inR i 0 ((n : Int) - 1) = true) : ∃ k : Nat, i = k ∧ k < n := by
  have h2 := inR_true h
  obtain ⟨k, rfl⟩ := Int.eq_ofNat_of_zero_le h2.1
  exact ⟨k, rfl, by omega⟩
theorem methAt_nat {l : List MethD} {k : Nat} (h : k < l.length) : methAt l (k : Int) = l[k] := by unfold methAt; rw [Int.toNat_natCast, getD_lt h]
theorem costB_out {l : List MethD} {i : Int} (h : inR i 0 ((l.length : Int) - 1) = false) : costB l i = 0 := by unfold costB; rw [h]; rfl
theorem costB_in {l : List MethD} {k : Nat} (h : inR (k : Int) 0 ((l.length : Int) - 1) = true) (hk : k < l.length) (hc : inR l[k].cost 0 99 = true) : costB l (k : Int) = l[k].cost := by
  unfold costB; rw [h, methAt_nat hk, hc]; rfl
theorem costB_no {l : List MethD} {k : Nat} (h : inR (k : Int) 0 ((l.length : Int) - 1) = true) (hk : k < l.length) (hc : inR l[k].cost 0 99 = false) : costB l (k : Int) = 0 := by
  unfold costB; rw [h, methAt_nat hk, hc]; rfl
theorem costB_bd (l : List MethD) (i : Int) : 0 ≤ costB l i ∧ costB l i ≤ 99 := by
  unfold costB
  split
  · rename_i h
    rw [Bool.and_eq_true] at h
    exact inR_true h.2
  · omega
/-- The cells of a method. -/
theorem meths.get {w : World} {a : Option Addr} {n cap : Nat} {l : List MethD} {f : List Nat} (h : meths w (.slice a n cap) l f) (k : Nat) (hk : k < l.length) :
    ∃ g vi fi, a = some ⟨g, 0, none⟩ ∧ w.cell? ⟨g, k * 5, none⟩ = some (.int .i64 l[k].rel) ∧ w.cell? ⟨g, k * 5 + 1, none⟩ = some vi ∧ w.cell? ⟨g, k * 5 + 2, none⟩ = some (.int .i64 l[k].limit) ∧
      w.cell? ⟨g, k * 5 + 3, none⟩ = some (.int .i64 l[k].cost) ∧ w.cell? ⟨g, k * 5 + 4, none⟩ = some (.int .i64 l[k].quota) ∧ ints w vi l[k].inputs fi := by
  obtain ⟨g, c, fi, rfl, ⟨vv, rfl, i1, i2, i3, i4, hv⟩, _, hc, _, _, _⟩ := slR.at h k hk
  exact ⟨g, vv, fi, rfl, hc 0 _ rfl, hc 1 _ rfl, hc 2 _ rfl, hc 3 _ rfl, hc 4 _ rfl, hv⟩
theorem isCost_any (x : Int) (w : World) : Calls Tryz.prog 164 #[.int .i64 x] w fun e w' => e = .returned (.bool (inR x 0 99)) ∧ w = w' := by
  go_enter Tryz.func164, Tryz.ntmps164
  go_wp2_with (go_at_call 107; refine (f107_any _ _ _ _).mono ?_; rintro e w' ⟨rfl, rfl⟩)
  go_ret
  exact ⟨rfl, rfl⟩
/-- The cost of calls. -/
def sumCost (l : List MethD) (ms : List Int) : Int := (ms.map (costB l)).sum
theorem sumCost_snoc (l : List MethD) (ms : List Int) (m : Int) : sumCost l (ms ++ [m]) = sumCost l ms + costB l m := by simp [sumCost]
theorem sumCost_bd (l : List MethD) (ms : List Int) : 0 ≤ sumCost l ms ∧ sumCost l ms ≤ 99 * ms.length := by
  induction ms with
  | nil => simp [sumCost]
  | cons m t ih =>
    have h := costB_bd l m
    have e : sumCost l (m :: t) = costB l m + sumCost l t := by simp [sumCost]
    rw [e]; simp only [List.length_cons]; omega

end Go.Proofs.YtpdmdfkcaabnaaaGreatDoor
