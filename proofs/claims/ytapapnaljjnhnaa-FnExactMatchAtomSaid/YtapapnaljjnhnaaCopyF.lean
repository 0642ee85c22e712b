/- slices.Clone of ints, copyFact, copyFacts of the program. Condition: sizes up to 2^20. -/
import Derived.Test.YtapapnaljjnhnaaCopy
import Derived.Test.YtapapnaljjnhnaaHFact
import Derived.Test.YtapapnaljjnhnaaFacts0
import Derived.StillTailTactics
import Derived.WalkSpells
namespace Go.Proofs.Ytapapnaljjnhnaa
open Go.RowKit
set_option linter.unusedVariables false
set_option linter.unusedSimpArgs false
set_option maxRecDepth 100000 in
set_option maxHeartbeats 800000 in
theorem clone_any (v : Value) (l : List Int) (f : List Nat) (w : World) (h : ints w v l f) (hn : l.length ≤ 1048576) :
    Calls Try.prog 34 #[v] w fun e w' => ∃ v' f', e = .returned v' ∧ ints w' v' l f' ∧ Fresh w.heap.size f' ∧ Below w.heap.size w w' := by
  obtain ⟨a, cap, rfl⟩ := slR.form h
  cases a with
  | none =>
    have hl : l = [] := by
      cases l with
      | nil => rfl
      | cons x t => obtain ⟨g, hg, _⟩ := h.get 0 (by simp); cases hg
    subst hl
    have heq := fun (w : World) => Lib.run_eql_slice_nil (P := Try.prog) w 22 3 none 0 cap 0 0 Try.underlying22
    go_enter Try.func34, Try.ntmps34
    go_wp2
    go_ret
    exact ⟨_, [], rfl, slR.nilv _ _ _ _, Fresh.nil _, Below.refl _ _⟩
  | some ad =>
    have heq := fun (w : World) => Lib.run_eql_slice_nil (P := Try.prog) w 22 3 (some ad) l.length cap 0 0 Try.underlying22
    go_enter Try.func34, Try.ntmps34
    go_wp2_with (at_builtin; refine wpList_copy_ints slInt rfl _ _ rfl rfl _ l f rfl h hn ?_; intro u1 w1 f1 hu1 hfr1 hb1)
    go_ret
    exact ⟨_, f1, rfl, hu1, hfr1, hb1⟩
end Go.Proofs.Ytapapnaljjnhnaa
