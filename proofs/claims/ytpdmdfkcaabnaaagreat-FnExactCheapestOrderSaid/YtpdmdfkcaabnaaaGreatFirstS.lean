/- l6First of the reference. No condition. -/
import Derived.Test.YtpdmdfkcaabnaaaGreatAsked
import Derived.Test.YtpdmdfkcaabnaaaGreatGreedL
import Derived.Test.YtpdmdfkcaabnaaaGreatGrow2
import Derived.Test.YtpdmdfkcaabnaaaGreatHStep
import Derived.Deep.RegionHeld3
import Derived.IntWalk
namespace Go.Proofs.YtpdmdfkcaabnaaaGreat
open Go.RowKit
set_option linter.unusedVariables false
set_option linter.unusedSimpArgs false
theorem firstM_at {l : List MethD} {a : AtomD} {b : List Int} {k : Nat} (hk : k < l.length) (h : canCallB l[k] a b = true) (hn : ∀ j (hj : j < l.length), j < k → canCallB l[j] a b = false) : firstM l a b = (k : Int) :=
  idxI_at _ _ k hk h hn
theorem firstM_none {l : List MethD} {a : AtomD} {b : List Int} {k : Nat} (hk : k = l.length) (hn : ∀ j (hj : j < l.length), j < k → canCallB l[j] a b = false) : firstM l a b = -1 :=
  idxI_none _ _ fun j hj => hn j hj (by omega)
theorem all_step {p : Nat → Bool} {k : Nat} (h : ∀ j, j < k → p j = false) (hk : p k = false) : ∀ j, j < k + 1 → p j = false := by
  intro j hj
  by_cases e : j = k
  · rw [e]; exact hk
  · exact h j (by omega)
theorem all_step' {α : Type} {p : α → Bool} {l : List α} {k : Nat} (hlt : k < l.length) (h : ∀ j (hj : j < l.length), j < k → p l[j] = false) (hk : p l[k] = false) : ∀ j (hj : j < l.length), j < k + 1 → p l[j] = false := by
  intro j hl hj
  by_cases e : j = k
  · subst e; exact hk
  · exact h j hl (by omega)
end Go.Proofs.YtpdmdfkcaabnaaaGreat
