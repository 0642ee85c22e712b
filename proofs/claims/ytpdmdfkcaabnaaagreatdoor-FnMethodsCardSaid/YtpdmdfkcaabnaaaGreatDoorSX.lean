/- What a step leaves as it was: all blocks but some. Over any program; no condition. -/
import Derived.Test.YtpdmdfkcaabnaaaGreatDoorMB
namespace Go.Proofs.YtpdmdfkcaabnaaaGreatDoor
open Go.RowKit
set_option linter.unusedVariables false
set_option linter.unusedSimpArgs false
/-- Nothing of what was there has changed but the blocks named. -/
def SX (X : List Nat) (w w' : World) : Prop := w.heap.size ≤ w'.heap.size ∧ ∀ j, j < w.heap.size → j ∉ X → w'.heap[j]? = w.heap[j]?
theorem SX.of_below {w w' : World} (h : Below w.heap.size w w') : SX [] w w' := ⟨h.size, fun j hj _ => h.block j hj⟩
theorem SX.set {w : World} (p : Addr) (v : Value) : SX [p.block] w (w.setCell p v) :=
  ⟨by simp [World.setCell], fun j hj hn => Below.heap_setCell _ _ _ _ (by simpa using hn)⟩
theorem SX.grown {w w' : World} {g : Nat} {o : Option Nat} (h : w.grownBy w' o) (ho : o = some g) : SX [g] w w' := by
  subst ho; exact ⟨h.size, fun j hj hn => h.block j hj (by intro e; cases e; simp at hn)⟩
theorem SX.cell {X : List Nat} {w w' : World} (s : SX X w w') {j o : Nat} {v : Value} (h : w.cell? ⟨j, o, none⟩ = some v) (hj : j ∉ X) : w'.cell? ⟨j, o, none⟩ = some v :=
  (World.cell?_of_block (s.2 j (lt_of_cell h) hj)).trans h
theorem SX.frozen {X : List Nat} {w w' : World} (s : SX X w w') {j o : Nat} {v : Value} (h : w.cell? ⟨j, o, none⟩ = some v) (hz : w.frozen? ⟨j, o, none⟩ = false) (hj : j ∉ X) : w'.frozen? ⟨j, o, none⟩ = false :=
  (World.frozen?_of_block (s.2 j (lt_of_cell h) hj)).trans hz
theorem SX.trans {X Y : List Nat} {a b c : World} (h : SX X a b) (k : SX Y b c) : SX (X ++ Y) a c :=
  ⟨Nat.le_trans h.1 k.1, fun j hj hn => (k.2 j (Nat.lt_of_lt_of_le hj h.1) (fun hm => hn (List.mem_append.2 (.inr hm)))).trans (h.2 j hj (fun hm => hn (List.mem_append.2 (.inl hm))))⟩
theorem SX.one {g : Nat} {a b c : World} (h : SX [g] a b) (k : SX [g] b c) : SX [g] a c :=
  ⟨(h.trans k).1, fun j hj hn => (h.trans k).2 j hj (by simpa using hn)⟩
theorem SX.refl (X : List Nat) (w : World) : SX X w w := ⟨Nat.le_refl _, fun _ _ _ => rfl⟩
theorem SX.more {X Y : List Nat} {a b : World} (h : SX X a b) (k : ∀ j ∈ X, j ∈ Y) : SX Y a b := ⟨h.1, fun j hj hn => h.2 j hj fun hm => hn (k j hm)⟩
theorem SX.alloc (w : World) (o : Obj) : SX [] w (w.alloc o) := SX.of_below (ba (Below.refl _ _))
theorem SX.drew (w : World) : SX [] w w.drew := ⟨Nat.le_refl _, fun _ _ _ => rfl⟩
/-- The world with the blocks below a bound alone. -/
def cutW (w : World) (n : Nat) : World := { w with heap := w.heap.extract 0 n }
theorem cutW_size {w : World} {n : Nat} (h : n ≤ w.heap.size) : (cutW w n).heap.size = n := by simp [cutW]; omega
theorem cutW_below {w : World} {n : Nat} (h : n ≤ w.heap.size) : Below (cutW w n).heap.size (cutW w n) w := by
  refine ⟨rfl, rfl, rfl, by rw [cutW_size h]; exact h, fun k hk => ?_⟩
  rw [cutW_size h] at hk
  simp only [cutW]
  rw [Array.getElem?_extract]
  simp; omega
theorem SX.grownBy {X : List Nat} {w7 wr w4 : World} {o : Option Nat} (s : SX X w7 wr) (hg : wr.grownBy w4 o) (ho : ∀ j, o = some j → w7.heap.size ≤ j) : SX X w7 w4 := by
  refine ⟨Nat.le_trans s.1 hg.size, fun j hj hn => ?_⟩
  refine (hg.block j (Nat.lt_of_lt_of_le hj s.1) ?_).trans (s.2 j hj hn)
  intro e
  have := ho j (by first | exact e | exact e.symm)
  omega
theorem SX.below {X : List Nat} {w7 wr w4 : World} (s : SX X w7 wr) (hb : Below wr.heap.size wr w4) : SX X w7 w4 :=
  ⟨Nat.le_trans s.1 hb.size, fun j hj hn => (hb.block j (Nat.lt_of_lt_of_le hj s.1)).trans (s.2 j hj hn)⟩
theorem SX.setIn {g : Nat} {w7 wr : World} (s : SX [g] w7 wr) (j : Nat) (v : Value) : SX [g] w7 (wr.setCell ⟨g, j, none⟩ v) := s.one (SX.set _ _)
theorem frozen_al (w : World) (cs : Array Value) (t : TypeId) (j : Nat) : (w.alloc (.cells cs t)).frozen? ⟨w.heap.size, j, none⟩ = false := by
  have h := heap_alloc_new w (.cells cs t)
  unfold World.frozen?
  show (match (w.alloc (.cells cs t)).heap[w.heap.size]? with | some (.cells c elem (lo, hi)) => decide (lo ≤ j) && decide (j < hi) | x => false) = false
  rw [h]; simp
/-- A box of five cells, all of which may be written. -/
def Five (w : World) (g : Nat) (a b c d e : Value) : Prop :=
  (w.cell? ⟨g, 0, none⟩ = some a ∧ w.cell? ⟨g, 1, none⟩ = some b ∧ w.cell? ⟨g, 2, none⟩ = some c ∧ w.cell? ⟨g, 3, none⟩ = some d ∧ w.cell? ⟨g, 4, none⟩ = some e) ∧
  (w.frozen? ⟨g, 0, none⟩ = false ∧ w.frozen? ⟨g, 1, none⟩ = false ∧ w.frozen? ⟨g, 2, none⟩ = false ∧ w.frozen? ⟨g, 3, none⟩ = false ∧ w.frozen? ⟨g, 4, none⟩ = false)
theorem Five.new (w : World) (t : TypeId) (a b c d e : Value) : Five (w.alloc (.cells #[a, b, c, d, e] t)) w.heap.size a b c d e :=
  ⟨⟨cell_new w _ _ 0 _ rfl, cell_new w _ _ 1 _ rfl, cell_new w _ _ 2 _ rfl, cell_new w _ _ 3 _ rfl, cell_new w _ _ 4 _ rfl⟩, frozen_al _ _ _ _, frozen_al _ _ _ _, frozen_al _ _ _ _, frozen_al _ _ _ _, frozen_al _ _ _ _⟩
theorem Five.sx {w w' : World} {g : Nat} {a b c d e : Value} {X : List Nat} (h : Five w g a b c d e) (s : SX X w w') (hg : g ∉ X) : Five w' g a b c d e := by
  obtain ⟨⟨c0, c1, c2, c3, c4⟩, z0, z1, z2, z3, z4⟩ := h
  exact ⟨⟨s.cell c0 hg, s.cell c1 hg, s.cell c2 hg, s.cell c3 hg, s.cell c4 hg⟩, s.frozen c0 z0 hg, s.frozen c1 z1 hg, s.frozen c2 z2 hg, s.frozen c3 z3 hg, s.frozen c4 z4 hg⟩
theorem Five.below {w w' : World} {g : Nat} {a b c d e : Value} (h : Five w g a b c d e) (hb : Below w.heap.size w w') : Five w' g a b c d e := h.sx (SX.of_below hb) (by simp)
theorem Five.lt {w : World} {g : Nat} {a b c d e : Value} (h : Five w g a b c d e) : g < w.heap.size := lt_of_cell h.1.1
/-- All five are written. -/
def set5 (w : World) (g : Nat) (a b c d e : Value) : World := ((((w.setCell ⟨g, 0, none⟩ a).setCell ⟨g, 1, none⟩ b).setCell ⟨g, 2, none⟩ c).setCell ⟨g, 3, none⟩ d).setCell ⟨g, 4, none⟩ e
theorem Five.set1 {w : World} {g : Nat} {a b c d e : Value} (h : Five w g a b c d e) (v : Value) : Five (w.setCell ⟨g, 1, none⟩ v) g a v c d e := by
  obtain ⟨⟨c0, c1, c2, c3, c4⟩, z0, z1, z2, z3, z4⟩ := h
  exact ⟨⟨(World.cell?_setCell_other _ _ _ _ (by simp)).trans c0, World.cell?_setCell_same _ _ _ c1, (World.cell?_setCell_other _ _ _ _ (by simp)).trans c2, (World.cell?_setCell_other _ _ _ _ (by simp)).trans c3, (World.cell?_setCell_other _ _ _ _ (by simp)).trans c4⟩,
    by simpa using z0, by simpa using z1, by simpa using z2, by simpa using z3, by simpa using z4⟩
theorem Five.set0 {w : World} {g : Nat} {a b c d e : Value} (h : Five w g a b c d e) (v : Value) : Five (w.setCell ⟨g, 0, none⟩ v) g v b c d e := by
  obtain ⟨⟨c0, c1, c2, c3, c4⟩, z0, z1, z2, z3, z4⟩ := h
  exact ⟨⟨World.cell?_setCell_same _ _ _ c0, (World.cell?_setCell_other _ _ _ _ (by simp)).trans c1, (World.cell?_setCell_other _ _ _ _ (by simp)).trans c2, (World.cell?_setCell_other _ _ _ _ (by simp)).trans c3, (World.cell?_setCell_other _ _ _ _ (by simp)).trans c4⟩,
    by simpa using z0, by simpa using z1, by simpa using z2, by simpa using z3, by simpa using z4⟩
theorem Five.set2 {w : World} {g : Nat} {a b c d e : Value} (h : Five w g a b c d e) (v : Value) : Five (w.setCell ⟨g, 2, none⟩ v) g a b v d e := by
  obtain ⟨⟨c0, c1, c2, c3, c4⟩, z0, z1, z2, z3, z4⟩ := h
  exact ⟨⟨(World.cell?_setCell_other _ _ _ _ (by simp)).trans c0, (World.cell?_setCell_other _ _ _ _ (by simp)).trans c1, World.cell?_setCell_same _ _ _ c2, (World.cell?_setCell_other _ _ _ _ (by simp)).trans c3, (World.cell?_setCell_other _ _ _ _ (by simp)).trans c4⟩,
    by simpa using z0, by simpa using z1, by simpa using z2, by simpa using z3, by simpa using z4⟩
theorem Five.set3 {w : World} {g : Nat} {a b c d e : Value} (h : Five w g a b c d e) (v : Value) : Five (w.setCell ⟨g, 3, none⟩ v) g a b c v e := by
  obtain ⟨⟨c0, c1, c2, c3, c4⟩, z0, z1, z2, z3, z4⟩ := h
  exact ⟨⟨(World.cell?_setCell_other _ _ _ _ (by simp)).trans c0, (World.cell?_setCell_other _ _ _ _ (by simp)).trans c1, (World.cell?_setCell_other _ _ _ _ (by simp)).trans c2, World.cell?_setCell_same _ _ _ c3, (World.cell?_setCell_other _ _ _ _ (by simp)).trans c4⟩,
    by simpa using z0, by simpa using z1, by simpa using z2, by simpa using z3, by simpa using z4⟩
theorem Five.set4 {w : World} {g : Nat} {a b c d e : Value} (h : Five w g a b c d e) (v : Value) : Five (w.setCell ⟨g, 4, none⟩ v) g a b c d v := by
  obtain ⟨⟨c0, c1, c2, c3, c4⟩, z0, z1, z2, z3, z4⟩ := h
  exact ⟨⟨(World.cell?_setCell_other _ _ _ _ (by simp)).trans c0, (World.cell?_setCell_other _ _ _ _ (by simp)).trans c1, (World.cell?_setCell_other _ _ _ _ (by simp)).trans c2, (World.cell?_setCell_other _ _ _ _ (by simp)).trans c3, World.cell?_setCell_same _ _ _ c4⟩,
    by simpa using z0, by simpa using z1, by simpa using z2, by simpa using z3, by simpa using z4⟩
theorem Five.set {w : World} {g : Nat} {a b c d e : Value} (h : Five w g a b c d e) (a' b' c' d' e' : Value) : Five (set5 w g a' b' c' d' e') g a' b' c' d' e' := ((((h.set0 a').set1 b').set2 c').set3 d').set4 e'
theorem SX.set5 {w : World} (g : Nat) (a b c d e : Value) : SX [g] w (Go.Proofs.YtpdmdfkcaabnaaaGreatDoor.set5 w g a b c d e) := ((((SX.set _ _).setIn _ _).setIn _ _).setIn _ _).setIn _ _
theorem below_set5 {w w' : World} {g : Nat} (h : Below w.heap.size w w') (hg : w.heap.size ≤ g) (a b c d e : Value) : Below w.heap.size w (set5 w' g a b c d e) := bs (bs (bs (bs (bs h hg) hg) hg) hg) hg
end Go.Proofs.YtpdmdfkcaabnaaaGreatDoor
