/- Small lemmas for the laws' helpers. -/
import Derived.Test.YtpdmdfkcaabnaaaGreatHInts
namespace Go.Proofs.YtpdmdfkcaabnaaaGreat
open Go.RowKit
set_option linter.unusedVariables false
set_option linter.unusedSimpArgs false
theorem bcell {W w1 : World} (hb : Below W.heap.size W w1) : (∀ b o, b < W.heap.size → w1.cell? ⟨b, o, none⟩ = W.cell? ⟨b, o, none⟩) ∧ (∀ b o, b < W.heap.size → w1.frozen? ⟨b, o, none⟩ = W.frozen? ⟨b, o, none⟩) :=
  ⟨fun b o h => hb.cell (p := ⟨b, o, none⟩) h, fun b o h => hb.frozen (p := ⟨b, o, none⟩) h⟩
/-- What is left of a budget: smaller lemmas. -/
theorem left_cases (n : Nat) (b : Int) (hb : 0 ≤ b) : (left n b < 0 ∧ left n b = -1) ∨ (0 ≤ left n b ∧ left n b = b - n) := by
  unfold left; by_cases h : b - n < 0
  · rw [if_pos h]; exact .inl ⟨by omega, rfl⟩
  · rw [if_neg h]; exact .inr ⟨by omega, rfl⟩
theorem left_sign (n : Nat) (b : Int) : -1 ≤ left n b := by unfold left; split <;> omega
theorem left_le (n : Nat) (b : Int) (hb : 0 ≤ b) : left n b ≤ b := by unfold left; split <;> omega
theorem left_over (n m : Nat) (b : Int) (h : left n b < 0) (h1 : left n b = -1) : left (n + m) b = -1 := by
  unfold left at *; split at h
  · rw [if_pos (by omega)]
  · omega
theorem left_add (n m : Nat) (b : Int) (h : 0 ≤ left n b) : left (n + m) b = left m (left n b) := by
  unfold left at *
  by_cases h1 : b - n < 0
  · rw [if_pos h1] at h; omega
  · rw [if_neg h1]
    by_cases h2 : b - (n + m : Nat) < 0
    · rw [if_pos h2, if_pos (by omega)]
    · rw [if_neg h2, if_neg (by omega)]; omega
theorem left_fits (n : Nat) (b : Int) (h : 0 ≤ left n b) : (n : Int) ≤ b ∧ left n b = b - n := by
  unfold left at *; split at h
  · omega
  · rename_i h1; exact ⟨by omega, by rw [if_neg h1]⟩
theorem left_neg {n : Nat} {b : Int} (h : b - n < 0) : left n b = -1 := by unfold left; rw [if_pos h]
theorem left_sub (n : Nat) (b : Int) (hb : 0 ≤ b) : left n b = -1 ∧ b - n < 0 ∨ left n b = b - n ∧ 0 ≤ b - n := by
  unfold left; by_cases h : b - n < 0
  · rw [if_pos h]; exact .inl ⟨rfl, h⟩
  · rw [if_neg h]; exact .inr ⟨rfl, by omega⟩
theorem left_le_iff {n : Nat} {b : Int} (h : left n b < 0) (h1 : left n b = -1) : b - n < 0 := by
  unfold left at h; split at h <;> omega
theorem sum_take_step (l : List Nat) (k : Nat) (hk : k < l.length) (m : Nat) (h : (l.take k).sum = m) : (l.take (k + 1)).sum = m + l[k] := by
  rw [List.take_succ_eq_append_getElem hk, List.sum_append, h]; simp
theorem sum_take_le (l : List Nat) (k : Nat) (hk : k < l.length) (m : Nat) (h : (l.take k).sum = m) : m + l[k] ≤ l.sum := by
  rw [← sum_take_step l k hk m h]
  have : l.sum = (l.take (k + 1)).sum + (l.drop (k + 1)).sum := by rw [← List.sum_append, List.take_append_drop]
  omega
theorem left_sum (S : List Nat) (n : Nat) (b : Int) (m k : Nat) (hk : k = S.length) (h : (S.take k).sum = m) (hm : 0 ≤ b - n - (m : Int)) : left (n + S.sum) b = b - n - (m : Int) := by
  subst hk
  rw [List.take_length] at h
  subst h
  unfold left
  rw [if_neg (by omega)]; omega
end Go.Proofs.YtpdmdfkcaabnaaaGreat
