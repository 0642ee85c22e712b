/- What a step leaves as it was: all blocks but some. Over any program; no condition. -/
import Derived.Test.YtkjlfhccjpimcaaDoorGrow
namespace Go.Proofs.YtkjlfhccjpimcaaDoor
open Go.RowKit
set_option linter.unusedVariables false
set_option linter.unusedSimpArgs false
/-- Nothing of what was there has changed but the blocks named. -/
def SX (X : List Nat) (w w' : World) : Prop := w.heap.size ≤ w'.heap.size ∧ ∀ j, j < w.heap.size → j ∉ X → w'.heap[j]? = w.heap[j]?
theorem SX.of_below {w w' : World} (h : Below w.heap.size w w') : SX [] w w' := ⟨h.size, fun j hj _ => h.block j hj⟩
theorem SX.set {w : World} (p : Addr) (v : Value) : SX [p.block] w (w.setCell p v) :=
  ⟨by simp [World.setCell], fun j hj hn => Below.heap_setCell _ _ _ _ (by simpa using hn)⟩
theorem SX.grown {w w' : World} {g : Nat} {o : Option Nat} (h : w.grownBy w' o) (ho : o = some g) : SX [g] w w' := by
  subst ho; exact ⟨h.size, fun j hj hn => h.block j hj (by intro e; cases e; simp at hn)⟩
theorem SX.cell {X : List Nat} {w w' : World} (s : SX X w w') {j o : Nat} {v : Value} (h : w.cell? ⟨j, o, none⟩ = some v) (hj : j ∉ X) : w'.cell? ⟨j, o, none⟩ = some v :=
  (World.cell?_of_block (s.2 j (lt_of_cell h) hj)).trans h
theorem SX.frozen {X : List Nat} {w w' : World} (s : SX X w w') {j o : Nat} {v : Value} (h : w.cell? ⟨j, o, none⟩ = some v) (hz : w.frozen? ⟨j, o, none⟩ = false) (hj : j ∉ X) : w'.frozen? ⟨j, o, none⟩ = false :=
  (World.frozen?_of_block (s.2 j (lt_of_cell h) hj)).trans hz
theorem SX.trans {X Y : List Nat} {a b c : World} (h : SX X a b) (k : SX Y b c) : SX (X ++ Y) a c :=
  ⟨Nat.le_trans h.1 k.1, fun j hj hn => (k.2 j (Nat.lt_of_lt_of_le hj h.1) (fun hm => hn (List.mem_append.2 (.inr hm)))).trans (h.2 j hj (fun hm => hn (List.mem_append.2 (.inl hm))))⟩
theorem SX.one {g : Nat} {a b c : World} (h : SX [g] a b) (k : SX [g] b c) : SX [g] a c :=
  ⟨(h.trans k).1, fun j hj hn => (h.trans k).2 j hj (by simpa using hn)⟩
theorem SX.refl (X : List Nat) (w : World) : SX X w w := ⟨Nat.le_refl _, fun _ _ _ => rfl⟩
theorem SX.more {X Y : List Nat} {a b : World} (h : SX X a b) (k : ∀ j ∈ X, j ∈ Y) : SX Y a b := ⟨h.1, fun j hj hn => h.2 j hj fun hm => hn (k j hm)⟩
theorem SX.alloc (w : World) (o : Obj) : SX [] w (w.alloc o) := SX.of_below (ba (Below.refl _ _))
theorem SX.drew (w : World) : SX [] w w.drew := ⟨Nat.le_refl _, fun _ _ _ => rfl⟩
end Go.Proofs.YtkjlfhccjpimcaaDoor
