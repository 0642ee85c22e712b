/- A row of ints of the call's own that is laid anew in place (as slices.Sort and slices.Compact do). Over any program; no condition. -/
import Derived.Test.YtpdmdfkcaabnaaaGreatDoorMB
import Derived.Sort.Row
import Derived.Sort.Grow
import Derived.Test.YtpdmdfkcaabnaaaGreatDoorSorted
namespace Go.Proofs.YtpdmdfkcaabnaaaGreatDoor
open Go.RowKit Go.Sort
set_option linter.unusedVariables false
set_option linter.unusedSimpArgs false
theorem holds_of_row {w : World} {E : TypeId} {l : List Int} {g cap n : Nat} (h : Row w E 1 (.slice (some ⟨g, 0, none⟩) n cap) n (icells l) (some g)) (hn : n = l.length) : Holds (Value.int .i64) w g 0 l.toArray := by
  intro j hj
  have hj' : j < l.length := by simpa using hj
  obtain ⟨g', hg, hg2, hc, hf⟩ := h.at (by omega)
  cases hg2
  rw [Nat.zero_add]
  exact ⟨hc j _ (by simp [icells, List.getElem?_eq_getElem hj', getElem!_pos l.toArray j hj]), hf j⟩
theorem below_put {w : World} {B g n : Nat} {d : Array Int} {os : Array Obj} (hB : B ≤ g) (hw : B ≤ w.heap.size) : Below B w (grow (putRow (Value.int .i64) (Sort.ahead w n) g 0 d) os) := by
  refine ⟨rfl, rfl, rfl, ?_, fun k hk => ?_⟩
  · simp [grow, putRow, mapBlock, Sort.ahead]
  · simp only [grow, putRow, mapBlock, Sort.ahead]
    rw [Array.getElem?_append_left (by simp; omega), Array.getElem?_modify, if_neg (by omega)]
theorem put_heap {w : World} {g n : Nat} {d : Array Int} {os : Array Obj} {cur : Array Value} {E : TypeId} (h : w.heap[g]? = some (.cells cur E (0, 0))) :
    (grow (putRow (Value.int .i64) (Sort.ahead w n) g 0 d) os).heap[g]? = some (.cells (putCells (Value.int .i64) 0 d cur) E (0, 0)) := by
  have hlt : g < w.heap.size := (Array.getElem?_eq_some_iff.1 h).1
  simp only [grow, putRow, mapBlock, Sort.ahead]
  rw [Array.getElem?_append_left (by simpa using hlt), Array.getElem?_modify, if_pos rfl, h]
  rfl
/-- The row laid anew, and cut to its first k elements. -/
theorem row_put {w : World} {E : TypeId} {l d : List Int} {g cap n k q : Nat} {os : Array Obj} (h : Row w E 1 (.slice (some ⟨g, 0, none⟩) n cap) n (icells l) (some g)) (hd : d.length = n) (hk : k ≤ n) :
    Row (grow (putRow (Value.int .i64) (Sort.ahead w q) g 0 d.toArray) os) E 1 (.slice (some ⟨g, 0, none⟩) k cap) k (icells (d.take k)) (some g) := by
  rcases h.2 with ⟨_, hv, _, ho⟩ | ⟨g', cap', cur, hv, ho, hg, h1, h2, h3, h4⟩
  · cases ho
  · cases hv
    refine ⟨by simp [icells]; omega, .inr ⟨g, cap, putCells (Value.int .i64) 0 d.toArray cur, rfl, rfl, put_heap hg, by omega, h2, by simpa [putCells] using h3, ?_⟩⟩
    apply List.ext_getElem?
    intro j
    rw [List.getElem?_take]
    simp only [icells, Nat.mul_one] at *
    by_cases hj : j < k
    · rw [if_pos hj]
      have hjc : j < cur.size := by omega
      have hjd : j < d.length := by omega
      simp only [putCells, Array.getElem?_toList, Array.getElem?_mapIdx, Array.getElem?_eq_getElem hjc, Option.map_some, List.getElem?_map, List.getElem?_take, if_pos hj, List.getElem?_eq_getElem hjd]
      rw [if_pos ⟨Nat.zero_le _, by simp; omega⟩]
      simp [getElem!_pos d.toArray j (by simpa using hjd)]
    · rw [if_neg hj]
      simp only [List.getElem?_map, List.getElem?_take, if_neg hj]; rfl
theorem below_grow0 {B : Nat} {w w' : World} (h : Below B w (grow w' #[])) : Below B w w' := by
  have e : grow w' #[] = w' := by simp [grow]
  rwa [e] at h
end Go.Proofs.YtpdmdfkcaabnaaaGreatDoor
