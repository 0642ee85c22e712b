/- Small lemmas for the walks of the laws: what is known of cells, sizes and bounds. No condition. -/
import Derived.Test.YtpdmdfkcaabnaaaGreatCalc
import Derived.Deep.RegionHeld3
namespace Go.Proofs.YtpdmdfkcaabnaaaGreat
open Go.RowKit
set_option linter.unusedVariables false
set_option linter.unusedSimpArgs false
theorem sum_ge_mem {α : Type} {f : α → Nat} {l : List α} {x : α} (h : x ∈ l) : f x ≤ (l.map f).sum := by
  induction l with
  | nil => simp at h
  | cons a t ih =>
    simp only [List.map_cons, List.sum_cons]
    rcases List.mem_cons.1 h with rfl | h
    · omega
    · have := ih h; omega
theorem eB {P : Program} {f : FuncId} {args : Array Value} {w : World} {v : Value} (h : Calls P f args w fun e w' => e = .returned v ∧ w = w') : Calls P f args w fun e w' => e = .returned v ∧ Below w.heap.size w w' :=
  h.mono fun _ _ ⟨h1, h2⟩ => ⟨h1, h2 ▸ Below.refl _ _⟩
theorem qB {P : Program} {f : FuncId} {args : Array Value} {w : World} {v : Value} (h : Calls P f args w fun e w' => e = .returned v ∧ Qt w w') : Calls P f args w fun e w' => e = .returned v ∧ Below w.heap.size w w' :=
  h.mono fun _ _ ⟨h1, h2⟩ => ⟨h1, h2.below⟩
theorem left_bd {n : Nat} {b : Int} (h : 0 ≤ left n b) (hb : 0 ≤ b) (hb2 : b ≤ 1048576) : n ≤ 1048576 ∧ 0 ≤ left n b ∧ left n b ≤ 1048576 := by
  have := left_fits n b h
  have := left_le n b hb
  omega
theorem bw {w W W' : World} {f : List Nat} (h : Below w.heap.size w W) (hw : Wrote f W W') (hf : ∀ g ∈ f, w.heap.size ≤ g) : Below w.heap.size w W' := h.trans (hw.below h.size hf)
end Go.Proofs.YtpdmdfkcaabnaaaGreat
