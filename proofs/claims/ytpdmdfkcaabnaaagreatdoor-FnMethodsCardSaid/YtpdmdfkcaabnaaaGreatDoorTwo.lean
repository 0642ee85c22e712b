/- A box of two cells, all of which may be written. Over any program; no condition. -/
import Derived.Test.YtpdmdfkcaabnaaaGreatDoorSX
import Derived.Laws.ResultCell
namespace Go.Proofs.YtpdmdfkcaabnaaaGreatDoor
open Go.RowKit
set_option linter.unusedVariables false
set_option linter.unusedSimpArgs false
def Two (w : World) (g : Nat) (a b : Value) : Prop :=
  (w.cell? ⟨g, 0, none⟩ = some a ∧ w.cell? ⟨g, 1, none⟩ = some b) ∧ (w.frozen? ⟨g, 0, none⟩ = false ∧ w.frozen? ⟨g, 1, none⟩ = false)
theorem Two.new (w : World) (t : TypeId) (a b : Value) : Two (w.alloc (.cells #[a, b] t)) w.heap.size a b :=
  ⟨⟨cell_new w _ _ 0 _ rfl, cell_new w _ _ 1 _ rfl⟩, frozen_al _ _ _ _, frozen_al _ _ _ _⟩
theorem Two.sx {w w' : World} {g : Nat} {a b : Value} {X : List Nat} (h : Two w g a b) (s : SX X w w') (hg : g ∉ X) : Two w' g a b := by
  obtain ⟨⟨c0, c1⟩, z0, z1⟩ := h
  exact ⟨⟨s.cell c0 hg, s.cell c1 hg⟩, s.frozen c0 z0 hg, s.frozen c1 z1 hg⟩
theorem Two.below {w w' : World} {g : Nat} {a b : Value} (h : Two w g a b) (hb : Below w.heap.size w w') : Two w' g a b := h.sx (SX.of_below hb) (by simp)
theorem Two.lt {w : World} {g : Nat} {a b : Value} (h : Two w g a b) : g < w.heap.size := lt_of_cell h.1.1
def two2 (w : World) (g : Nat) (a b : Value) : World := (w.setCell ⟨g, 0, none⟩ a).setCell ⟨g, 1, none⟩ b
theorem Two.set0 {w : World} {g : Nat} {a b : Value} (h : Two w g a b) (v : Value) : Two (w.setCell ⟨g, 0, none⟩ v) g v b := by
  obtain ⟨⟨c0, c1⟩, z0, z1⟩ := h
  exact ⟨⟨World.cell?_setCell_same _ _ _ c0, (World.cell?_setCell_other _ _ _ _ (by simp)).trans c1⟩, by simpa using z0, by simpa using z1⟩
theorem Two.set1 {w : World} {g : Nat} {a b : Value} (h : Two w g a b) (v : Value) : Two (w.setCell ⟨g, 1, none⟩ v) g a v := by
  obtain ⟨⟨c0, c1⟩, z0, z1⟩ := h
  exact ⟨⟨(World.cell?_setCell_other _ _ _ _ (by simp)).trans c0, World.cell?_setCell_same _ _ _ c1⟩, by simpa using z0, by simpa using z1⟩
theorem Two.set {w : World} {g : Nat} {a b : Value} (h : Two w g a b) (a' b' : Value) : Two (two2 w g a' b') g a' b' := (h.set0 a').set1 b'
theorem SX.two2 {w : World} (g : Nat) (a b : Value) : SX [g] w (Go.Proofs.YtpdmdfkcaabnaaaGreatDoor.two2 w g a b) := (SX.set _ _).setIn _ _
theorem below_two2 {w w' : World} {g : Nat} (h : Below w.heap.size w w') (hg : w.heap.size ≤ g) (a b : Value) : Below w.heap.size w (two2 w' g a b) := bs (bs h hg) hg
theorem ints_two2 {w : World} {v : Value} {l : List Int} {f : List Nat} {g : Nat} (h : ints w v l f) (hg : g ∉ f) (a b : Value) : ints (two2 w g a b) v l f := (h.far hg a).far hg b
theorem load2 {P : Program} {w : World} {g ty : Nat} {a b : Value} {ds : TypeDesc} (h : Two w g a b)
    (hu : P.underlying ty = some ds) (hd : (match ds with | .struct _ | .array _ _ => true | _ => false) = true) (hi : (P.info? ty).map (·.size) = some 2) :
    (loadVar ty ⟨g, 0, none⟩).run P w = .ok (.agg #[a, b]) w := by
  obtain ⟨⟨h0, h1⟩, _⟩ := h
  have hl : (loadCells ⟨g, 0, none⟩ 2).run P w = .ok #[a, b] w :=
    run_loadCells_list (P := P) w ⟨g, 0, none⟩ [a, b] (fun j v hv => by
      have hadd : (⟨g, 0, none⟩ : Addr).add j = ⟨g, j, none⟩ := by unfold Addr.add; split <;> simp_all
      rw [hadd]
      match j, hv with
      | 0, hv => simp at hv; rw [h0, hv]
      | 1, hv => simp at hv; rw [h1, hv])
  cases hq : P.info? ty with
  | none => simp [hq] at hi
  | some i =>
    have hs : i.size = 2 := by simpa [hq] using hi
    have hagg : (isAgg ty).run P w = .ok true w := by
      unfold isAgg
      rw [Sem.run_bind, run_underlying hu w]
      cases ds <;> simp_all
    simp [loadVar, Sem.run_bind, hagg, sizeOf, typeInfo, hq, hs, hl]
end Go.Proofs.YtpdmdfkcaabnaaaGreatDoor
