/- l6Greedy of the reference. Condition: atoms of up to three terms, at most four. -/
import Derived.Test.YtpdmdfkcaabnaaaGreatFirstS
import Derived.Test.YtpdmdfkcaabnaaaGreatGreedL
import Derived.Test.YtpdmdfkcaabnaaaGreatGrow2
import Derived.Test.YtpdmdfkcaabnaaaGreatHStep
import Derived.IntWalk
namespace Go.Proofs.YtpdmdfkcaabnaaaGreat
open Go.RowKit
set_option linter.unusedVariables false
set_option linter.unusedSimpArgs false
theorem grR.lit' {α : Type} {E : TypeId} {sz : Nat} {B : Nat} {w : World} (R : Rd α) (hB : B ≤ w.heap.size) {H : Nat} (hH : w.heap.size = H) : grR E sz R B (w.alloc (.cells #[] E)) (.slice (some ⟨H, 0, none⟩) 0 0) [] [H] := by
  subst hH; exact grR.lit R hB (Nat.le_refl _)
theorem all_flat {α : Type} {R : Rd α} {w : World} {cs : List (List Value)} {ds : List α} {fs : List (List Nat)} (hR : ∀ cs d f, R w cs d f → f = []) (h : All R w cs ds fs) : fs.flatten = [] := by
  induction h with
  | nil => rfl
  | cons h _ ih => rw [List.flatten_cons, ih, hR _ _ _ h]; rfl
theorem grR.flat {α : Type} {E : TypeId} {sz : Nat} {R : Rd α} {B : Nat} {w : World} {g n cap : Nat} {l : List α} {f : List Nat} (hR : ∀ cs d f, R w cs d f → f = []) (h : grR E sz R B w (.slice (some ⟨g, 0, none⟩) n cap) l f) : f = [g] := by
  obtain ⟨rows, fs, ha, _, _, rfl, _⟩ := h
  rw [all_flat hR ha]; rfl
theorem int_flat {w : World} : ∀ cs d f, intR w cs d f → f = [] := fun _ _ _ h => h.2.1
theorem step_flat {w : World} : ∀ cs d f, stepR w cs d f → f = [] := fun _ _ _ h => h.2.1
end Go.Proofs.YtpdmdfkcaabnaaaGreat
