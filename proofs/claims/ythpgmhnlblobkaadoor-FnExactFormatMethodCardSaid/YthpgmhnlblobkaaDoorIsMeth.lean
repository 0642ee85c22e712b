/- IsMethod and AreMethods, of the program and of the reference. No condition. -/
import Derived.Test.YthpgmhnlblobkaaDoorMeth
import Derived.IntWalk
namespace Go.Proofs.YthpgmhnlblobkaaDoor
open Go.RowKit
set_option linter.unusedVariables false
set_option linter.unusedSimpArgs false
theorem qEqM {P : Program} {f : FuncId} {args : Array Value} {w : World} {n x : Nat} {v : Value} (h : Calls P f args (w.drewN (n + x)) fun e w' => e = .returned v ∧ w.drewN (n + x) = w') :
    Calls P f args (w.drewN (n + x)) fun e w'' => e = .returned v ∧ ∃ m, w'' = w.drewN (n + m) := h.mono fun _ _ ⟨he, hm⟩ => ⟨he, x, hm.symm⟩
theorem schema_arity {s : List Int} (h : schemaB s = true) {k : Nat} (hk : k < s.length) : 1 ≤ s[k] ∧ s[k] ≤ 3 := by
  unfold schemaB at h
  simp only [Bool.and_eq_true, Bool.not_eq_true'] at h
  have h2 := List.any_eq_false.1 h.2 s[k] (List.getElem_mem hk)
  simp at h2
  exact inR_true h2
theorem inputBad_zero {m : MethD} {a : Int} (h : 0 < m.inputs.length) : inputBad m a 0 = !inR m.inputs[0] 0 (a - 1) := by
  unfold inputBad; rw [getD_lt h, ascBad_zero]; simp
theorem inputBad_succ {m : MethD} {a : Int} {j : Nat} (h : j + 1 < m.inputs.length) : inputBad m a (j + 1) = (!inR m.inputs[j + 1] 0 (a - 1) || decide (m.inputs[j + 1] ≤ m.inputs[j])) := by
  unfold inputBad; rw [getD_lt h, ascBad_succ h]
theorem methB_eq {s : List Int} {m : MethD} {r : Nat} (hs : schemaB s = true) (hin : inR (r : Int) 0 ((s.length : Int) - 1) = true) (hr : r < s.length) (hm : m.rel = r) : methB s m = fitsB m s[r] := by
  unfold methB hasRelB; rw [hm, hs, hin, arity_nat hr]; rfl
theorem methB_no {s : List Int} {m : MethD} (h : hasRelB s m.rel = false) : methB s m = false := by unfold methB; rw [h]; rfl
end Go.Proofs.YthpgmhnlblobkaaDoor
