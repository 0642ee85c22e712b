/- What a value in memory reads as, and in which blocks it lies: rows of cells, elements one by one, slices of whatever elements. Over any program; no condition. -/
import Derived.Test.YtpdmdfkcaabnaaaGreatLib
namespace Go.Proofs.YtpdmdfkcaabnaaaGreat
open Go.RowKit
set_option linter.unusedVariables false
set_option linter.unusedSimpArgs false

/-- An int's bounds. -/
def I64 (n : Int) : Prop := -9223372036854775808 ≤ n ∧ n ≤ 9223372036854775807

/-! ### A row of cells -/
/-- A slice value of n elements of type E (sz cells each) whose cells are xs; o is its block (none: it has no cells, and no room for any). -/
def Row (w : World) (E : TypeId) (sz : Nat) (v : Value) (n : Nat) (xs : List Value) (o : Option Nat) : Prop :=
  xs.length = n * sz ∧
  ((∃ a, v = .slice a 0 0 ∧ n = 0 ∧ o = none) ∨
   ∃ g cap cur, v = .slice (some ⟨g, 0, none⟩) n cap ∧ o = some g ∧ w.heap[g]? = some (.cells cur E (0, 0)) ∧ n ≤ cap ∧ cap ≤ maxLen ∧ cur.size = cap * sz ∧ cur.toList.take (n * sz) = xs)

section
variable {w w' : World} {E : TypeId} {sz : Nat} {v : Value} {n : Nat} {xs : List Value} {o : Option Nat}
theorem Row.form (h : Row w E sz v n xs o) : ∃ a cap, v = .slice a n cap := by
  rcases h.2 with ⟨a, rfl, rfl, _⟩ | ⟨g, cap, cur, rfl, _⟩
  · exact ⟨_, _, rfl⟩
  · exact ⟨_, _, rfl⟩
theorem Row.frame (h : Row w E sz v n xs o) (hf : ∀ g, o = some g → w'.heap[g]? = w.heap[g]?) : Row w' E sz v n xs o := by
  refine ⟨h.1, ?_⟩
  rcases h.2 with h2 | ⟨g, cap, cur, hv, ho, hg, r⟩
  · exact .inl h2
  · exact .inr ⟨g, cap, cur, hv, ho, (hf g ho).trans hg, r⟩
theorem Row.lt (h : Row w E sz v n xs o) : ∀ g, o = some g → g < w.heap.size := by
  intro g hg
  rcases h.2 with ⟨_, _, _, ho⟩ | ⟨g', cap, cur, _, ho, hh, _⟩
  · rw [ho] at hg; cases hg
  · rw [ho] at hg; cases hg
    exact (Array.getElem?_eq_some_iff.1 hh).1
theorem Row.le_max (h : Row w E sz v n xs o) : n ≤ maxLen := by
  rcases h.2 with ⟨_, _, hn, _⟩ | ⟨g', cap, cur, _, ho, hh, h1, h2, _⟩
  · omega
  · omega
theorem Row.nilv (w : World) (E : TypeId) (sz : Nat) : Row w E sz (.slice none 0 0) 0 [] none := ⟨by simp, .inl ⟨none, rfl, rfl, rfl⟩⟩
theorem Row.of_own {base : Nat} (h : w.ownsRow base E sz v n xs) : ∃ o, Row w E sz v n xs o ∧ o = v.ownBlock := by
  rcases h with ⟨h1, ⟨rfl, rfl⟩ | ⟨g, cap, cur, rfl, hb, hg, r⟩⟩
  · exact ⟨none, ⟨h1, .inl ⟨none, rfl, rfl, rfl⟩⟩, rfl⟩
  · exact ⟨some g, ⟨h1, .inr ⟨g, cap, cur, rfl, rfl, hg, r⟩⟩, rfl⟩
/-- Where there is an element there is a block. -/
theorem Row.at {a : Option Addr} {cap : Nat} (h : Row w E sz (.slice a n cap) n xs o) (hn : 0 < n) :
    ∃ g, a = some ⟨g, 0, none⟩ ∧ o = some g ∧ (∀ j u, xs[j]? = some u → w.cell? ⟨g, j, none⟩ = some u) ∧ ∀ j, w.frozen? ⟨g, j, none⟩ = false := by
  rcases h.2 with ⟨_, _, h0, _⟩ | ⟨g, cap', cur, hv, ho, hg, h1, h2, h3, h4⟩
  · omega
  · cases hv
    refine ⟨g, rfl, ho, fun j u hj => ?_, fun j => by simp [World.frozen?, hg]⟩
    rw [cell_of_row w g j cur E (0, 0) hg]
    rw [← h4, List.getElem?_take] at hj
    split at hj
    · simpa using hj
    · cases hj
/-- One cell of a row is stored. -/
theorem Row.set {g : Nat} (h : Row w E sz v n xs (some g)) (j : Nat) (u : Value) : Row (w.setCell ⟨g, j, none⟩ u) E sz v n (xs.set j u) (some g) := by
  refine ⟨by simpa using h.1, ?_⟩
  rcases h.2 with ⟨_, _, _, ho⟩ | ⟨g', cap, cur, hv, ho, hg, h1, h2, h3, h4⟩
  · cases ho
  · cases ho
    refine .inr ⟨g, cap, cur.setIfInBounds j u, hv, rfl, ?_, h1, h2, by simpa using h3, ?_⟩
    · simp [World.setCell, Array.getElem?_modify, hg]
    · rw [← h4, Array.toList_setIfInBounds, List.take_set]
theorem Row.below {B : Nat} (h : Row w E sz v n xs o) (hb : Below B w w') (ho : ∀ g, o = some g → g < B) : Row w' E sz v n xs o :=
  h.frame fun g hg => hb.block g (ho g hg)
theorem Row.below' (h : Row w E sz v n xs o) (hb : Below w.heap.size w w') : Row w' E sz v n xs o := h.below hb h.lt
/-- A made row. -/
theorem Row.made (w : World) (cs : Array Value) (n : Nat) (hm : n ≤ maxLen) (hs : cs.size = n * sz) :
    Row (w.alloc (.cells cs E)) E sz (.slice (some ⟨w.heap.size, 0, none⟩) n n) n cs.toList (some w.heap.size) :=
  ⟨by simpa using hs, .inr ⟨w.heap.size, n, cs, rfl, rfl, heap_alloc_new w _, Nat.le_refl _, hm, hs, List.take_of_length_le (by simp [hs])⟩⟩
end

/-! ### Elements one by one -/
/-- How a datum reads off cells, and in which blocks what it leads to lies. -/
abbrev Rd (α : Type) := World → List Value → α → List Nat → Prop
structure Good {α : Type} (R : Rd α) : Prop where
  frame : ∀ {w w' : World} {cs : List Value} {d : α} {f : List Nat}, R w cs d f → (∀ g ∈ f, w'.heap[g]? = w.heap[g]?) → R w' cs d f
  lt : ∀ {w : World} {cs : List Value} {d : α} {f : List Nat}, R w cs d f → ∀ g ∈ f, g < w.heap.size
theorem Good.below {α : Type} {R : Rd α} (hR : Good R) {w w' : World} {B : Nat} {cs : List Value} {d : α} {f : List Nat} (h : R w cs d f) (hb : Below B w w') (hf : ∀ g ∈ f, g < B) : R w' cs d f :=
  hR.frame h fun g hg => hb.block g (hf g hg)
theorem Good.below' {α : Type} {R : Rd α} (hR : Good R) {w w' : World} {cs : List Value} {d : α} {f : List Nat} (h : R w cs d f) (hb : Below w.heap.size w w') : R w' cs d f :=
  hR.below h hb (hR.lt h)

inductive All {α : Type} (R : Rd α) (w : World) : List (List Value) → List α → List (List Nat) → Prop
  | nil : All R w [] [] []
  | cons {c : List Value} {d : α} {f : List Nat} {cs : List (List Value)} {ds : List α} {fs : List (List Nat)} : R w c d f → All R w cs ds fs → All R w (c :: cs) (d :: ds) (f :: fs)
section
variable {α : Type} {R : Rd α} {w w' : World} {cs : List (List Value)} {ds : List α} {fs : List (List Nat)}
theorem All.len (h : All R w cs ds fs) : cs.length = ds.length ∧ fs.length = ds.length := by
  induction h with
  | nil => exact ⟨rfl, rfl⟩
  | cons _ _ ih => simp [ih.1, ih.2]
theorem All.frame (hR : Good R) (h : All R w cs ds fs) (hf : ∀ g ∈ fs.flatten, w'.heap[g]? = w.heap[g]?) : All R w' cs ds fs := by
  induction h with
  | nil => exact .nil
  | cons h1 _ ih =>
    refine .cons (hR.frame h1 fun g hg => hf g (by simp [hg])) (ih fun g hg => hf g ?_)
    simp only [List.flatten_cons, List.mem_append]
    exact .inr hg
theorem All.lt (hR : Good R) (h : All R w cs ds fs) : ∀ g ∈ fs.flatten, g < w.heap.size := by
  induction h with
  | nil => simp
  | cons h1 _ ih =>
    intro g hg
    simp only [List.flatten_cons, List.mem_append] at hg
    rcases hg with hg | hg
    · exact hR.lt h1 g hg
    · exact ih g hg
theorem All.append {cs' : List (List Value)} {ds' : List α} {fs' : List (List Nat)} (h : All R w cs ds fs) (h' : All R w cs' ds' fs') : All R w (cs ++ cs') (ds ++ ds') (fs ++ fs') := by
  induction h with
  | nil => exact h'
  | cons h1 _ ih => exact .cons h1 ih
theorem All.snoc {c : List Value} {d : α} {f : List Nat} (h : All R w cs ds fs) (h' : R w c d f) : All R w (cs ++ [c]) (ds ++ [d]) (fs ++ [f]) := h.append (.cons h' .nil)
theorem All.get (h : All R w cs ds fs) : ∀ i (hi : i < ds.length), ∃ c f, cs[i]? = some c ∧ fs[i]? = some f ∧ R w c ds[i] f := by
  induction h with
  | nil => intro i hi; simp at hi
  | cons h1 _ ih =>
    intro i hi
    cases i with
    | zero => exact ⟨_, _, rfl, rfl, h1⟩
    | succ i =>
      obtain ⟨c, f, hc, hf, hr⟩ := ih i (by simpa using hi)
      exact ⟨c, f, by simpa using hc, by simpa using hf, by simpa using hr⟩
theorem All.set {c : List Value} {d : α} {f : List Nat} (h : All R w cs ds fs) : ∀ i (_ : R w c d f), All R w (cs.set i c) (ds.set i d) (fs.set i f) := by
  induction h with
  | nil => intro i _; simpa using All.nil
  | cons h1 h2 ih =>
    intro i hr
    cases i with
    | zero => exact .cons hr h2
    | succ i => exact .cons h1 (ih i hr)
end

theorem flat_get {sz : Nat} {rows : List (List Value)} (hl : ∀ c ∈ rows, c.length = sz) : ∀ (i : Nat) (c : List Value) (j : Nat) (u : Value), rows[i]? = some c → c[j]? = some u → rows.flatten[i * sz + j]? = some u := by
  induction rows with
  | nil => intro i c j u h; simp at h
  | cons r rows ih =>
    intro i c j u h hj
    have hr : r.length = sz := hl r (by simp)
    cases i with
    | zero =>
      simp only [List.getElem?_cons_zero, Option.some.injEq] at h
      subst h
      have hjl : j < r.length := (List.getElem?_eq_some_iff.1 hj).1
      simp only [Nat.zero_mul, Nat.zero_add, List.flatten_cons]
      rw [List.getElem?_append_left hjl]; exact hj
    | succ i =>
      simp only [List.getElem?_cons_succ] at h
      rw [List.flatten_cons, List.getElem?_append_right (by rw [hr, Nat.succ_mul]; omega)]
      have e : (i + 1) * sz + j - r.length = i * sz + j := by rw [hr, Nat.succ_mul]; omega
      rw [e]
      exact ih (fun c hc => hl c (by simp [hc])) i c j u h hj
theorem flat_set {sz : Nat} {rows : List (List Value)} (hl : ∀ c ∈ rows, c.length = sz) : ∀ (i : Nat) (c : List Value) (j : Nat) (u : Value), rows[i]? = some c → j < sz → rows.flatten.set (i * sz + j) u = (rows.set i (c.set j u)).flatten := by
  induction rows with
  | nil => intro i c j u h; simp at h
  | cons r rows ih =>
    intro i c j u h hj
    have hr : r.length = sz := hl r (by simp)
    cases i with
    | zero =>
      simp only [List.getElem?_cons_zero, Option.some.injEq] at h
      subst h
      simp only [Nat.zero_mul, Nat.zero_add, List.flatten_cons, List.set_cons_zero]
      rw [List.set_append_left _ _ (by omega)]
    | succ i =>
      simp only [List.getElem?_cons_succ] at h
      simp only [List.flatten_cons, List.set_cons_succ]
      rw [List.set_append_right _ _ (by rw [hr, Nat.succ_mul]; omega)]
      have e : (i + 1) * sz + j - r.length = i * sz + j := by rw [hr, Nat.succ_mul]; omega
      rw [e, ih (fun c hc => hl c (by simp [hc])) i c j u h hj]

/-! ### Slices -/
/-- A slice value that reads as a list, each element by R; f: the blocks, its own first. -/
def slR {α : Type} (E : TypeId) (sz : Nat) (R : Rd α) (w : World) (v : Value) (l : List α) (f : List Nat) : Prop :=
  ∃ rows fs o, All R w rows l fs ∧ (∀ c ∈ rows, c.length = sz) ∧ Row w E sz v l.length rows.flatten o ∧ f = o.toList ++ fs.flatten
section
variable {α : Type} {E : TypeId} {sz : Nat} {R : Rd α} {w w' : World} {v : Value} {l : List α} {f : List Nat}
theorem slR.form (h : slR E sz R w v l f) : ∃ a cap, v = .slice a l.length cap := by
  obtain ⟨_, _, _, _, _, h, _⟩ := h; exact h.form
theorem slR.le_max (h : slR E sz R w v l f) : l.length ≤ 9223372036854775807 := by
  obtain ⟨_, _, _, _, _, h, _⟩ := h; exact h.le_max
theorem slR.frame (hR : Good R) (h : slR E sz R w v l f) (hf : ∀ g ∈ f, w'.heap[g]? = w.heap[g]?) : slR E sz R w' v l f := by
  obtain ⟨rows, fs, o, ha, hl, hr, rfl⟩ := h
  exact ⟨rows, fs, o, ha.frame hR fun g hg => hf g (by rw [List.mem_append]; exact .inr hg), hl, hr.frame fun g hg => hf g (by simp [hg]), rfl⟩
theorem slR.lt (hR : Good R) (h : slR E sz R w v l f) : ∀ g ∈ f, g < w.heap.size := by
  obtain ⟨rows, fs, o, ha, hl, hr, rfl⟩ := h
  intro g hg
  rw [List.mem_append] at hg
  rcases hg with hg | hg
  · exact hr.lt g (by simpa using hg)
  · exact ha.lt hR g hg
theorem slR.below (hR : Good R) {B : Nat} (h : slR E sz R w v l f) (hb : Below B w w') (hf : ∀ g ∈ f, g < B) : slR E sz R w' v l f :=
  h.frame hR fun g hg => hb.block g (hf g hg)
theorem slR.below' (hR : Good R) (h : slR E sz R w v l f) (hb : Below w.heap.size w w') : slR E sz R w' v l f := h.below hR hb (h.lt hR)
theorem slR.nilv (w : World) (E : TypeId) (sz : Nat) (R : Rd α) : slR E sz R w (.slice none 0 0) [] [] := ⟨[], [], none, .nil, by simp, Row.nilv w E sz, rfl⟩
theorem slR.far (hR : Good R) (h : slR E sz R w v l f) {p : Addr} (hp : p.block ∉ f) (u : Value) : slR E sz R (w.setCell p u) v l f :=
  h.frame hR fun g hg => Below.heap_setCell _ _ _ _ (fun e => hp (e ▸ hg))
/-- The i-th element. -/
theorem slR.at {a : Option Addr} {n cap : Nat} (h : slR E sz R w (.slice a n cap) l f) (i : Nat) (hi : i < l.length) :
    ∃ g c fi, a = some ⟨g, 0, none⟩ ∧ R w c l[i] fi ∧ c.length = sz ∧ (∀ j u, c[j]? = some u → w.cell? ⟨g, i * sz + j, none⟩ = some u) ∧ (∀ j, w.frozen? ⟨g, j, none⟩ = false) ∧ g ∈ f ∧ ∀ x ∈ fi, x ∈ f := by
  obtain ⟨rows, fs, o, ha, hl, hr, rfl⟩ := h
  obtain ⟨a', cap', hv⟩ := hr.form
  cases hv
  obtain ⟨g, rfl, rfl, hc, hfz⟩ := hr.at (by omega)
  obtain ⟨c, fi, hci, hfi, hR⟩ := ha.get i hi
  refine ⟨g, c, fi, rfl, hR, hl c (List.mem_of_getElem? hci), fun j u hj => hc _ _ (flat_get hl i c j u hci hj), hfz, by simp, fun x hx => ?_⟩
  rw [List.mem_append]
  exact .inr (List.mem_flatten.2 ⟨fi, List.mem_of_getElem? hfi, hx⟩)
end
/-- As the one cell of a field or of an element. -/
def elR {α : Type} (E : TypeId) (sz : Nat) (R : Rd α) : Rd (List α) := fun w cs l f => ∃ v, cs = [v] ∧ slR E sz R w v l f
theorem good_el {α : Type} {E : TypeId} {sz : Nat} {R : Rd α} (hR : Good R) : Good (elR E sz R) :=
  ⟨fun ⟨v, hv, h⟩ hf => ⟨v, hv, h.frame hR hf⟩, fun ⟨v, hv, h⟩ => h.lt hR⟩
/-- An integer. -/
def intR : Rd Int := fun _ cs d f => cs = [.int .i64 d] ∧ f = [] ∧ I64 d
theorem good_int : Good intR := ⟨fun h _ => h, fun h => by rw [h.2.1]; simp⟩

/-- Blocks of the call's own: none twice, all from B on. -/
def Fresh (B : Nat) (f : List Nat) : Prop := f.Nodup ∧ ∀ g ∈ f, B ≤ g
theorem Fresh.nil (B : Nat) : Fresh B [] := ⟨by simp, by simp⟩
theorem Fresh.mono {B B' : Nat} {f : List Nat} (h : Fresh B f) (hB : B' ≤ B) : Fresh B' f := ⟨h.1, fun g hg => Nat.le_trans hB (h.2 g hg)⟩
theorem Fresh.notin {B b : Nat} {f : List Nat} (h : Fresh B f) (hb : b < B) : b ∉ f := fun hm => by have := h.2 b hm; omega
theorem Fresh.append {B M : Nat} {f f' : List Nat} (h : Fresh B f) (h' : Fresh M f') (hM : B ≤ M) (hlt : ∀ g ∈ f, g < M) : Fresh B (f ++ f') := by
  refine ⟨List.nodup_append.2 ⟨h.1, h'.1, fun a ha b hb e => ?_⟩, fun g hg => ?_⟩
  · subst e
    have := hlt a ha
    have := h'.2 a hb
    omega
  · rw [List.mem_append] at hg
    rcases hg with hg | hg
    · exact h.2 g hg
    · exact Nat.le_trans hM (h'.2 g hg)
/-- Of what was there only these blocks may have been written. -/
structure Wrote (f : List Nat) (w w' : World) : Prop where
  os : w'.os = w.os
  tape : w'.tape = w.tape
  output : w'.output = w.output
  size : w.heap.size ≤ w'.heap.size
  block : ∀ k, k < w.heap.size → k ∉ f → w'.heap[k]? = w.heap[k]?
theorem Wrote.refl (f : List Nat) (w : World) : Wrote f w w := ⟨rfl, rfl, rfl, Nat.le_refl _, fun _ _ _ => rfl⟩
theorem Wrote.trans {f : List Nat} {a b c : World} (h : Wrote f a b) (k : Wrote f b c) : Wrote f a c :=
  ⟨k.os.trans h.os, k.tape.trans h.tape, k.output.trans h.output, Nat.le_trans h.size k.size, fun i hi hn => (k.block i (Nat.lt_of_lt_of_le hi h.size) hn).trans (h.block i hi hn)⟩
theorem Wrote.mono {f f' : List Nat} {a b : World} (h : Wrote f a b) (hf : ∀ g ∈ f, g ∈ f') : Wrote f' a b := ⟨h.os, h.tape, h.output, h.size, fun i hi hn => h.block i hi fun hg => hn (hf i hg)⟩
theorem Wrote.setCell {f : List Nat} {a w : World} (h : Wrote f a w) {p : Addr} (hp : p.block ∈ f) (u : Value) : Wrote f a (w.setCell p u) :=
  h.trans ⟨rfl, rfl, rfl, by simp [World.setCell], fun k hk hn => Below.heap_setCell _ _ _ _ (fun e => hn (e ▸ hp))⟩
theorem Wrote.of_below {f : List Nat} {a w : World} (h : Below a.heap.size a w) : Wrote f a w := ⟨h.os, h.tape, h.output, h.size, fun k hk _ => h.block k hk⟩
theorem Wrote.drew {f : List Nat} {a w : World} (h : Wrote f a w) : Wrote f a w.drew := ⟨h.os, h.tape, h.output, h.size, h.block⟩
theorem Wrote.alloc {f : List Nat} {a w : World} (h : Wrote f a w) (o : Obj) : Wrote f a (w.alloc o) := h.trans (Wrote.of_below ((Below.refl _ _).alloc (Nat.le_refl _) o))
theorem Wrote.cellAt {f : List Nat} {a w : World} (h : Wrote f a w) {b o : Nat} (hb : b < a.heap.size) (hn : b ∉ f) : w.cell? ⟨b, o, none⟩ = a.cell? ⟨b, o, none⟩ := World.cell?_of_block (h.block b hb hn)
/-- What lies below B is as it was, where all that was written lies from B on. -/
theorem Wrote.below {f : List Nat} {a w : World} {B : Nat} (h : Wrote f a w) (hB : B ≤ a.heap.size) (hf : ∀ g ∈ f, B ≤ g) : Below B a w :=
  ⟨h.os, h.tape, h.output, h.size, fun k hk => h.block k (by omega) fun hg => by have := hf k hg; omega⟩
/-! ### A made slice that is filled from its head on -/
/-- The first k elements read as l's, the rest holds zero cells zc. -/
def partR {α : Type} (E : TypeId) (sz : Nat) (R : Rd α) (zc : List Value) (w : World) (g : Nat) (l : List α) (k : Nat) (f : List Nat) : Prop :=
  ∃ rows fs, All R w rows (l.take k) fs ∧ (∀ c ∈ rows, c.length = sz) ∧ Row w E sz (.slice (some ⟨g, 0, none⟩) l.length l.length) l.length (rows ++ List.replicate (l.length - k) zc).flatten (some g) ∧ f = fs.flatten
/-- Cells stored one behind the other. -/
def storeAll (w : World) (g off : Nat) : List Value → World
  | [] => w
  | u :: r => storeAll (w.setCell ⟨g, off, none⟩ u) g (off + 1) r
theorem madeCells_rows (z : Value) (sz n : Nat) (hz : z.cells.size = sz) (hp : 0 < sz) : (madeCells z.cells (n * sz)).toList = (List.replicate n z.cells.toList).flatten := by
  apply List.ext_getElem?
  intro i
  by_cases hi : i < n * sz
  · have hq : i / sz < n := Nat.div_lt_of_lt_mul (by rw [Nat.mul_comm]; exact hi)
    have hr : i % sz < sz := Nat.mod_lt _ hp
    have hm : (madeCells z.cells (n * sz)).toList[i]? = some (z.cells[i % z.cells.size]!) := by
      simp only [madeCells, Array.getElem?_toList]
      rw [Array.getElem?_map, Array.getElem?_range, if_pos hi]; rfl
    rw [hm]
    have hl : ∀ c ∈ List.replicate n z.cells.toList, c.length = sz := by
      intro c hc; rw [(List.mem_replicate.1 hc).2]; simpa using hz
    have h1 : (List.replicate n z.cells.toList)[i / sz]? = some z.cells.toList := by rw [List.getElem?_replicate, if_pos hq]
    have h2 : z.cells.toList[i % sz]? = some (z.cells[i % z.cells.size]!) := by
      have hlt : i % sz < z.cells.size := by omega
      rw [hz, Array.getElem?_toList, Array.getElem?_eq_getElem hlt, getElem!_pos z.cells (i % sz) hlt]
    have := flat_get hl (i / sz) _ (i % sz) _ h1 h2
    rw [show i / sz * sz + i % sz = i from by rw [Nat.mul_comm]; exact Nat.div_add_mod i sz] at this
    exact this.symm
  · have h1 : (madeCells z.cells (n * sz)).toList.length ≤ i := by simp [size_madeCells]; omega
    have h2 : (List.replicate n z.cells.toList).flatten.length ≤ i := by
      simp [List.length_flatten, hz]; omega
    rw [List.getElem?_eq_none h1, List.getElem?_eq_none h2]
section
variable {α : Type} {E : TypeId} {sz : Nat} {R : Rd α} {zc : List Value} {w w' : World} {g : Nat} {l : List α} {k : Nat} {f : List Nat}
theorem part_start (w : World) (z : Value) (hz : z.cells.size = sz) (hp : 0 < sz) (l : List α) (hm : l.length ≤ maxLen) :
    partR E sz R z.cells.toList (w.alloc (.cells (madeCells z.cells (l.length * sz)) E)) w.heap.size l 0 [] := by
  refine ⟨[], [], .nil, by simp, ?_, rfl⟩
  have := Row.made (E := E) (sz := sz) w (madeCells z.cells (l.length * sz)) l.length hm (by rw [size_madeCells])
  rw [madeCells_rows z sz l.length hz hp] at this
  simpa using this
theorem part_rows (hk : k < l.length) (rows : List (List Value)) (hr : rows.length = k) : (rows ++ List.replicate (l.length - k) zc)[k]? = some zc := by
  rw [List.getElem?_append_right (by omega), List.getElem?_replicate, if_pos (by omega)]
theorem part_cells (h : partR E sz R zc w g l k f) (hk : k < l.length) (hz : zc.length = sz) : ∀ j u, zc[j]? = some u → w.cell? ⟨g, k * sz + j, none⟩ = some u := by
  intro j u hj
  obtain ⟨rows, fs, ha, hl, hr, rfl⟩ := h
  have hlen := ha.len.1
  rw [List.length_take] at hlen
  obtain ⟨g', hg, hg2, hc, _⟩ := hr.at (by omega)
  cases hg2
  refine hc _ _ (flat_get (sz := sz) ?_ k zc j u (part_rows hk rows (by omega)) hj)
  intro c hc
  rw [List.mem_append] at hc
  rcases hc with hc | hc
  · exact hl c hc
  · rw [(List.mem_replicate.1 hc).2]; exact hz
theorem part_frozen (h : partR E sz R zc w g l k f) (hk : k < l.length) (j : Nat) : w.frozen? ⟨g, j, none⟩ = false := by
  obtain ⟨rows, fs, ha, hl, hr, rfl⟩ := h
  obtain ⟨g', hg, hg2, _, hf⟩ := hr.at (by omega)
  cases hg2
  exact hf j
theorem part_lt (hR : Good R) (h : partR E sz R zc w g l k f) : g < w.heap.size ∧ ∀ x ∈ f, x < w.heap.size := by
  obtain ⟨rows, fs, ha, hl, hr, rfl⟩ := h
  exact ⟨hr.lt g rfl, ha.lt hR⟩
theorem part_frame (hR : Good R) (h : partR E sz R zc w g l k f) (hg : w'.heap[g]? = w.heap[g]?) (hf : ∀ x ∈ f, w'.heap[x]? = w.heap[x]?) : partR E sz R zc w' g l k f := by
  obtain ⟨rows, fs, ha, hl, hr, rfl⟩ := h
  exact ⟨rows, fs, ha.frame hR hf, hl, hr.frame fun x hx => by cases hx; exact hg, rfl⟩
theorem part_below (hR : Good R) (h : partR E sz R zc w g l k f) (hb : Below w.heap.size w w') : partR E sz R zc w' g l k f :=
  part_frame hR h (hb.block g (part_lt hR h).1) fun x hx => hb.block x ((part_lt hR h).2 x hx)
theorem set_self {β : Type} {l : List β} {i : Nat} {x : β} (h : l[i]? = some x) : l.set i x = l := by
  apply List.ext_getElem?
  intro j
  rw [List.getElem?_set]
  split
  · rename_i e; subst e
    split
    · exact h.symm
    · rename_i hn; rw [List.getElem?_eq_none (by omega)] at h; cases h
  · rfl
theorem row_storeAll {o : Nat} {v : Value} {n : Nat} (hp : 0 < sz) : ∀ (c : List Value) (rows : List (List Value)) (w : World) (i j : Nat) (old : List Value), (∀ r ∈ rows, r.length = sz) → rows[i]? = some old → j + c.length = sz →
    Row w E sz v n rows.flatten (some o) → Row (storeAll w o (i * sz + j) c) E sz v n (rows.set i (old.take j ++ c)).flatten (some o)
  | [], rows, w, i, j, old, hl, hi, hj, h => by
    have e : old.take j ++ [] = old := by
      rw [List.append_nil, List.take_of_length_le]
      have := hl old (List.mem_of_getElem? hi)
      simp at hj; omega
    rw [e, set_self hi]
    exact h
  | u :: c, rows, w, i, j, old, hl, hi, hj, h => by
    have holen := hl old (List.mem_of_getElem? hi)
    simp only [List.length_cons] at hj
    have hs := h.set (i * sz + j) u
    rw [flat_set hl i old j u hi (by omega)] at hs
    have hil : i < rows.length := (List.getElem?_eq_some_iff.1 hi).1
    have := row_storeAll hp c (rows.set i (old.set j u)) (w.setCell ⟨o, i * sz + j, none⟩ u) i (j + 1) (old.set j u) (by
      intro r hr
      rcases List.mem_or_eq_of_mem_set hr with h1 | rfl
      · exact hl r h1
      · simpa using holen) (by simp [hil]) (by omega) hs
    rw [List.set_set] at this
    have e : (old.set j u).take (j + 1) ++ c = old.take j ++ u :: c := by
      rw [List.take_succ_eq_append_getElem (by simp; omega), List.take_set, List.set_eq_of_length_le (by simp; omega)]
      simp
    rw [e] at this
    exact this
theorem storeAll_block (c : List Value) : ∀ (w : World) (g off x : Nat), x ≠ g → (storeAll w g off c).heap[x]? = w.heap[x]? := by
  induction c with
  | nil => intro w g off x _; rfl
  | cons u c ih => intro w g off x hx; exact (ih _ g (off + 1) x hx).trans (Below.heap_setCell _ _ _ _ hx)
theorem part_step (hR : Good R) (hp : 0 < sz) (h : partR E sz R zc w g l k f) (hk : k < l.length) (hz : zc.length = sz) {c : List Value} {fk : List Nat} (hc : c.length = sz) (hr : R w c l[k] fk) (hg : g ∉ f) (hgk : g ∉ fk) :
    partR E sz R zc (storeAll w g (k * sz) c) g l (k + 1) (f ++ fk) := by
  obtain ⟨rows, fs, ha, hl, hrow, rfl⟩ := h
  have hlen := ha.len.1
  rw [List.length_take] at hlen
  have hlk : rows.length = k := by omega
  have hfr : ∀ x, x ≠ g → (storeAll w g (k * sz) c).heap[x]? = w.heap[x]? := fun x hx => storeAll_block c w g (k * sz) x hx
  have hl' : ∀ r ∈ rows ++ List.replicate (l.length - k) zc, r.length = sz := by
    intro r hr
    rw [List.mem_append] at hr
    rcases hr with hr | hr
    · exact hl r hr
    · rw [(List.mem_replicate.1 hr).2]; exact hz
  have hs := row_storeAll hp c _ w k 0 zc hl' (part_rows hk rows hlk) (by omega) hrow
  have e : (rows ++ List.replicate (l.length - k) zc).set k (zc.take 0 ++ c) = (rows ++ [c]) ++ List.replicate (l.length - (k + 1)) zc := by
    rw [List.set_append_right _ _ (by omega), hlk, Nat.sub_self, show l.length - k = (l.length - (k + 1)) + 1 from by omega, List.replicate_succ, List.set_cons_zero]
    simp
  rw [e] at hs
  refine ⟨rows ++ [c], fs ++ [fk], ?_, ?_, hs, by simp⟩
  · rw [List.take_succ_eq_append_getElem hk]
    exact (ha.frame hR fun x hx => hfr x (fun e => hg (e ▸ hx))).snoc (hR.frame hr fun x hx => hfr x (fun e => hgk (e ▸ hx)))
  · intro r hr
    rw [List.mem_append] at hr
    rcases hr with hr | hr
    · exact hl r hr
    · rw [List.mem_singleton.1 hr]; exact hc
theorem part_full (h : partR E sz R zc w g l k f) (hk : k = l.length) : slR E sz R w (.slice (some ⟨g, 0, none⟩) l.length l.length) l (g :: f) := by
  subst hk
  obtain ⟨rows, fs, ha, hl, hr, rfl⟩ := h
  rw [List.take_length] at ha
  rw [Nat.sub_self, List.replicate_zero, List.append_nil] at hr
  exact ⟨rows, fs, some g, ha, hl, hr, rfl⟩
end
/-! ### One element of a slice is written -/
section
variable {α : Type} {R : Rd α} {w w' : World} {cs : List (List Value)} {ds : List α} {fs : List (List Nat)}
theorem All.get' (h : All R w cs ds fs) (i : Nat) (hi : i < ds.length) {c : List Value} (hc : cs[i]? = some c) {f : List Nat} (hf : fs[i]? = some f) : R w c ds[i] f := by
  obtain ⟨c', f', h1, h2, h3⟩ := h.get i hi
  rw [hc] at h1; rw [hf] at h2
  cases h1; cases h2; exact h3
/-- The i-th element is turned, what the others lie in is kept. -/
theorem All.turn (hR : Good R) (h : All R w cs ds fs) : ∀ (i : Nat) (c : List Value) (d : α) (f : List Nat), fs[i]? = some f → R w' c d f → (∀ (k : Nat) (fk : List Nat), k ≠ i → fs[k]? = some fk → ∀ g ∈ fk, w'.heap[g]? = w.heap[g]?) → All R w' (cs.set i c) (ds.set i d) fs := by
  induction h with
  | nil => intro i c d f hf; simp at hf
  | cons h1 h2 ih =>
    intro i c d f hf hr hk
    cases i with
    | zero =>
      simp only [List.getElem?_cons_zero, Option.some.injEq] at hf
      subst hf
      refine .cons hr (h2.frame hR fun g hg => ?_)
      obtain ⟨fk, hfk, hgk⟩ := List.mem_flatten.1 hg
      obtain ⟨k, hk'⟩ := List.getElem?_of_mem hfk
      exact hk (k + 1) fk (by omega) (by simpa using hk') g hgk
    | succ i =>
      simp only [List.getElem?_cons_succ] at hf
      refine .cons (hR.frame h1 fun g hg => hk 0 _ (by omega) rfl g hg) (ih i c d f hf hr fun k fk hne hfk g hg => hk (k + 1) fk (by omega) (by simpa using hfk) g hg)
end
theorem nodup_apart {fs : List (List Nat)} (h : fs.flatten.Nodup) {i k : Nat} {f fk : List Nat} (hi : fs[i]? = some f) (hk : fs[k]? = some fk) (hne : k ≠ i) {g : Nat} (hg : g ∈ fk) : g ∉ f := by
  intro hgf
  induction fs generalizing i k with
  | nil => simp at hi
  | cons a t ih =>
    rw [List.flatten_cons, List.nodup_append] at h
    obtain ⟨h1, h2, h3⟩ := h
    cases i with
    | zero =>
      simp only [List.getElem?_cons_zero, Option.some.injEq] at hi
      subst hi
      cases k with
      | zero => exact hne rfl
      | succ k =>
        simp only [List.getElem?_cons_succ] at hk
        exact h3 g hgf g (List.mem_flatten.2 ⟨fk, List.mem_of_getElem? hk, hg⟩) rfl
    | succ i =>
      simp only [List.getElem?_cons_succ] at hi
      cases k with
      | zero =>
        simp only [List.getElem?_cons_zero, Option.some.injEq] at hk
        subst hk
        exact h3 g hg g (List.mem_flatten.2 ⟨f, List.mem_of_getElem? hi, hgf⟩) rfl
      | succ k =>
        simp only [List.getElem?_cons_succ] at hk
        exact ih h2 hi hk (by omega)
/-- A slice of which the i-th element has been taken out: its cells are c, what it leads to lies in fi. -/
def openR {α : Type} (E : TypeId) (sz : Nat) (R : Rd α) (w : World) (g n cap : Nat) (l : List α) (f : List Nat) (i : Nat) (c : List Value) (fi : List Nat) : Prop :=
  ∃ (rows : List (List Value)) (fs : List (List Nat)), Row w E sz (.slice (some ⟨g, 0, none⟩) n cap) n rows.flatten (some g) ∧ n = l.length ∧ (∀ r ∈ rows, r.length = sz) ∧ rows[i]? = some c ∧ fs[i]? = some fi ∧ f = g :: fs.flatten ∧ f.Nodup ∧ (∀ x ∈ f, x < w.heap.size) ∧
    (∀ (w1 : World) (c' : List Value) (d : α), (∀ (k : Nat) (fk : List Nat), k ≠ i → fs[k]? = some fk → ∀ x ∈ fk, w1.heap[x]? = w.heap[x]?) → R w1 c' d fi → All R w1 (rows.set i c') (l.set i d) fs)
section
variable {α : Type} {E : TypeId} {sz : Nat} {R : Rd α} {w w' : World} {l : List α} {f : List Nat} {g n cap i : Nat} {c : List Value} {fi : List Nat}
theorem slR.open {a : Option Addr} (hR : Good R) (h : slR E sz R w (.slice a n cap) l f) (hnd : f.Nodup) (hi : i < l.length) :
    ∃ g c fi, a = some ⟨g, 0, none⟩ ∧ openR E sz R w g n cap l f i c fi ∧ R w c l[i] fi := by
  have hlt := h.lt hR
  obtain ⟨rows, fs, o, ha, hl, hr, rfl⟩ := h
  obtain ⟨a', cap', hv⟩ := hr.form
  cases hv
  obtain ⟨g, rfl, rfl, hc, hfz⟩ := hr.at (by omega)
  obtain ⟨c, fi, hci, hfi, hRi⟩ := ha.get i hi
  exact ⟨g, c, fi, rfl, ⟨rows, fs, hr, rfl, hl, hci, hfi, rfl, hnd, hlt, fun w1 c' d hk hr' => ha.turn hR i c' d fi hfi hr' hk⟩, hRi⟩
theorem openR.cell (h : openR E sz R w g n cap l f i c fi) (hn : 0 < n) : ∀ j u, c[j]? = some u → w.cell? ⟨g, i * sz + j, none⟩ = some u := by
  intro j u hj
  obtain ⟨rows, fs, hr, rfl, hl, hci, _⟩ := h
  obtain ⟨g', hg, hg2, hc, _⟩ := hr.at hn
  cases hg2
  exact hc _ _ (flat_get hl i c j u hci hj)
theorem openR.frozen (h : openR E sz R w g n cap l f i c fi) (hn : 0 < n) (j : Nat) : w.frozen? ⟨g, j, none⟩ = false := by
  obtain ⟨rows, fs, hr, rfl, hl, hci, _⟩ := h
  obtain ⟨g', hg, hg2, _, hf⟩ := hr.at hn
  cases hg2
  exact hf j
theorem openR.mem (h : openR E sz R w g n cap l f i c fi) : g ∈ f ∧ g ∉ fi ∧ (∀ x ∈ fi, x ∈ f) ∧ fi.Nodup := by
  obtain ⟨rows, fs, hr, rfl, hl, hci, hfi, rfl, hnd, _⟩ := h
  have hnd2 := List.nodup_cons.1 hnd
  have hmem : ∀ x ∈ fi, x ∈ fs.flatten := fun x hx => List.mem_flatten.2 ⟨fi, List.mem_of_getElem? hfi, hx⟩
  exact ⟨by simp, fun hg => hnd2.1 (hmem g hg), fun x hx => by simp [hmem x hx], (List.pairwise_flatten.1 hnd2.2).1 fi (List.mem_of_getElem? hfi)⟩
theorem openR.store (h : openR E sz R w g n cap l f i c fi) (j : Nat) (hj : j < sz) (u : Value) : openR E sz R (w.setCell ⟨g, i * sz + j, none⟩ u) g n cap l f i (c.set j u) fi := by
  obtain ⟨rows, fs, hr, hn, hl, hci, hfi, hf, hnd, hlt, hA⟩ := h
  have hil : i < rows.length := (List.getElem?_eq_some_iff.1 hci).1
  have hs := hr.set (i * sz + j) u
  rw [flat_set hl i c j u hci hj] at hs
  refine ⟨rows.set i (c.set j u), fs, hs, hn, ?_, by simp [hil], hfi, hf, hnd, by simpa [World.setCell] using hlt, fun w1 c' d hk hr' => ?_⟩
  · intro r hrr
    rcases List.mem_or_eq_of_mem_set hrr with h1 | rfl
    · exact hl r h1
    · simpa using hl c (List.mem_of_getElem? hci)
  · rw [List.set_set]
    refine hA w1 c' d (fun k fk hne hfk x hx => (hk k fk hne hfk x hx).trans ?_) hr'
    have hg : x ≠ g := by
      rintro rfl
      rw [hf] at hnd
      exact (List.nodup_cons.1 hnd).1 (List.mem_flatten.2 ⟨fk, List.mem_of_getElem? hfk, hx⟩)
    exact Below.heap_setCell _ _ _ _ hg
theorem openR.wrote {f' : List Nat} (h : openR E sz R w g n cap l f i c fi) (hw : Wrote f' w w') (hf' : ∀ x ∈ f', x ∈ fi) : openR E sz R w' g n cap l f i c fi := by
  have hm := h.mem
  obtain ⟨rows, fs, hr, hn, hl, hci, hfi, hf, hnd, hlt, hA⟩ := h
  refine ⟨rows, fs, hr.frame fun x hx => by cases hx; exact hw.block g (hlt g hm.1) (fun hx => hm.2.1 (hf' _ hx)), hn, hl, hci, hfi, hf, hnd, fun x hx => Nat.lt_of_lt_of_le (hlt x hx) hw.size, fun w1 c' d hk hr' => ?_⟩
  refine hA w1 c' d (fun k fk hne hfk x hx => (hk k fk hne hfk x hx).trans ?_) hr'
  have hxf : x ∈ f := by rw [hf]; simp only [List.mem_cons]; exact .inr (List.mem_flatten.2 ⟨fk, List.mem_of_getElem? hfk, hx⟩)
  refine hw.block x (hlt x hxf) fun hxf' => ?_
  rw [hf] at hnd
  exact nodup_apart (List.nodup_cons.1 hnd).2 hfi hfk hne hx (hf' x hxf')
theorem openR.shut (h : openR E sz R w g n cap l f i c fi) {d : α} (hr' : R w c d fi) : slR E sz R w (.slice (some ⟨g, 0, none⟩) n cap) (l.set i d) f := by
  obtain ⟨rows, fs, hr, hn, hl, hci, hfi, hf, hnd, hlt, hA⟩ := h
  have := hA w c d (fun _ _ _ _ _ _ => rfl) hr'
  rw [set_self hci] at this
  refine ⟨rows, fs, some g, this, hl, ?_, by rw [hf]; rfl⟩
  rw [List.length_set, ← hn]
  exact hr
end

/-! ### Numbers laid into a datum one behind the other -/
def markL {α : Type} (mk : Int → α → α) (cnt : α → Nat) : Int → List α → List α
  | _, [] => []
  | k, x :: t => mk k x :: markL mk cnt (k + cnt x) t
section
variable {α : Type} {mk : Int → α → α} {cnt : α → Nat}
theorem markL_length (k : Int) (l : List α) : (markL mk cnt k l).length = l.length := by
  induction l generalizing k with
  | nil => rfl
  | cons x t ih => simp [markL, ih]
theorem markL_snoc (k : Int) (l : List α) (x : α) : markL mk cnt k (l ++ [x]) = markL mk cnt k l ++ [mk (k + ((l.map cnt).sum : Nat)) x] := by
  induction l generalizing k with
  | nil => simp [markL]
  | cons y t ih =>
    simp only [List.cons_append, markL, ih, List.map_cons, List.sum_cons]
    rw [show k + (cnt y : Int) + ((t.map cnt).sum : Nat) = k + ((cnt y + (t.map cnt).sum : Nat) : Int) from by omega]
theorem markL_step (k : Int) (l : List α) (j : Nat) (hj : j < l.length) (m : Nat) (hm : ((l.map cnt).take j).sum = m) :
    (markL mk cnt k (l.take j) ++ l.drop j).set j (mk (k + m) l[j]) = markL mk cnt k (l.take (j + 1)) ++ l.drop (j + 1) := by
  rw [List.set_append_right _ _ (by rw [markL_length]; simp; omega), markL_length]
  have e : j - (l.take j).length = 0 := by simp; omega
  rw [e, List.drop_eq_getElem_cons hj, List.set_cons_zero, List.take_succ_eq_append_getElem hj, markL_snoc, ← List.map_take, ] at *
  rw [← hm, List.map_take]; simp
theorem markL_at (k : Int) (l : List α) (j : Nat) (hj : j < l.length) (h : j < (markL mk cnt k (l.take j) ++ l.drop j).length) : (markL mk cnt k (l.take j) ++ l.drop j)[j] = l[j] := by
  rw [List.getElem_append_right (by rw [markL_length]; simp; omega)]
  simp only [markL_length, List.length_take]
  have e : j - min j l.length = 0 := by omega
  simp [e]
theorem markL_get (k : Int) (l : List α) (j : Nat) (hj : j < l.length) (m : Nat) (hm : ((l.map cnt).take j).sum = m) (h : j < (markL mk cnt k l).length) : (markL mk cnt k l)[j] = mk (k + m) l[j] := by
  induction l generalizing k j m with
  | nil => simp at hj
  | cons x t ih =>
    cases j with
    | zero => simp at hm; subst hm; simp [markL]
    | succ j =>
      simp only [List.map_cons, List.take_succ_cons, List.sum_cons] at hm
      simp only [markL, List.getElem_cons_succ]
      rw [ih (k + cnt x) j (by simpa using hj) ((t.map cnt).take j).sum rfl]
      rw [show k + (cnt x : Int) + (((t.map cnt).take j).sum : Nat) = k + (m : Int) from by omega]
end
end Go.Proofs.YtpdmdfkcaabnaaaGreat
