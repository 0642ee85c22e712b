/- Rows of tests (bool). No condition. -/
import Derived.Test.YtpdmdfkcaabnaaaGreatOrdL
import Derived.Test.YtpdmdfkcaabnaaaGreatGrow
import Derived.Test.YtpdmdfkcaabnaaaGreatHInts
namespace Go.Proofs.YtpdmdfkcaabnaaaGreat
open Go.RowKit
set_option linter.unusedVariables false
set_option linter.unusedSimpArgs false
theorem own_frame {w w' : World} {B : Nat} {E : TypeId} {sz : Nat} {v : Value} {n : Nat} {xs : List Value} (h : w.ownsRow B E sz v n xs) (hf : ∀ g, v.ownBlock = some g → w'.heap[g]? = w.heap[g]?) : w'.ownsRow B E sz v n xs := by
  refine ⟨h.1, ?_⟩
  rcases h.2 with h0 | ⟨g, cap, cur, rfl, hb, hh, r⟩
  · exact .inl h0
  · exact .inr ⟨g, cap, cur, rfl, hb, (hf g rfl).trans hh, r⟩
theorem own_below {w w' : World} {B : Nat} {E : TypeId} {sz : Nat} {v : Value} {n : Nat} {xs : List Value} (h : w.ownsRow B E sz v n xs) (hb : Below w.heap.size w w') : w'.ownsRow B E sz v n xs := own_frame h fun g hg => hb.block g (own_lt h g hg).2
theorem infoBool : (Tryz.prog.info? 4).map (fun i => (i.zero, i.size, i.bytes)) = some (some (.bool false), 1, 1) := by kernel_rfl
theorem slBool : SlT Tryz.prog 62 4 (.bool false) 1 1 := slT_of Tryz.underlying62 infoBool rfl (by decide)
/-- A row of tests. -/
def bcells (ds : List Bool) : List Value := ds.map Value.bool
theorem bcells_set (ds : List Bool) (i : Nat) (b : Bool) : (bcells ds).set i (.bool b) = bcells (ds.set i b) := by unfold bcells; rw [List.map_set]
theorem bcells_get {ds : List Bool} {i : Nat} {b : Bool} (h : ds[i]? = some b) : (bcells ds)[i]? = some (.bool b) := by unfold bcells; simp [h]
theorem made_bools (w : World) (n : Nat) (hn : n ≤ 1000) : Row (w.alloc (.cells (madeCells #[Value.bool false] n) 4)) 4 1 (.slice (some ⟨w.heap.size, 0, none⟩) n n) n (bcells (List.replicate n false)) (some w.heap.size) := by
  have h := Row.made (E := 4) (sz := 1) w (madeCells (Value.cells (.bool false)) (n * 1)) n (by unfold maxLen; omega) (by rw [size_madeCells])
  have e : (madeCells (Value.cells (.bool false)) (n * 1)).toList = bcells (List.replicate n false) := by
    have h2 := madeCells_rows (.bool false) 1 n rfl (by decide)
    have h3 : (Value.cells (.bool false)).toList = [Value.bool false] := rfl
    rw [h2, h3]
    unfold bcells
    simp [List.flatten_replicate_singleton]
  rw [e, Nat.mul_one] at h
  exact h
theorem memB_snoc (l : List Int) (x y : Int) : memB (l ++ [x]) y = (memB l y || decide (y = x)) := by
  rw [Bool.eq_iff_iff]; simp [memB_iff]
theorem mem_set_bool {ds : List Bool} {n aq : Nat} {u : List Int} (h : ∀ a, a < n → ds[a]? = some (memB u (a : Int))) (hq : aq < n) : ∀ a, a < n → (ds.set aq true)[a]? = some (memB (u ++ [(aq : Int)]) (a : Int)) := by
  intro a ha
  rw [memB_snoc, List.getElem?_set]
  by_cases e : aq = a
  · subst e
    have := h aq hq
    have hl : aq < ds.length := (List.getElem?_eq_some_iff.1 this).1
    simp [hl]
  · rw [if_neg e, h a ha]
    have : decide ((a : Int) = (aq : Int)) = false := decide_eq_false (by omega)
    rw [this, Bool.or_false]
end Go.Proofs.YtpdmdfkcaabnaaaGreat
