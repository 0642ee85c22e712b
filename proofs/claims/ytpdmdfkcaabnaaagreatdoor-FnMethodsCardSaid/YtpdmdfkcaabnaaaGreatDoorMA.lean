/- Several of my texts as one: Lib, Own, Types, Int, HInts, HBase, IdxInt, Schema, Calc. -/
import Derived.WalkKit
import Derived.ProofKit
import Derived.Lib.Hide
import Derived.Outline
import Derived.OwnWalk
import Derived.Below
import Derived.Test.YtpdmdfkcaabnaaaGreatDoorChecked
import Derived.BigQuiet
import Derived.Deep.QuietTactic
/- Small laws over any program: append of one new element to a row of the call's own, and what such a row comes to. No condition. -/
namespace Go.Proofs.YtpdmdfkcaabnaaaGreatDoor
open Go.RowKit
set_option linter.unusedVariables false
set_option linter.unusedSimpArgs false

/-- Type T is a slice of elements of type E, of zero value z, each of so many cells and bytes. -/
structure SlT (P : Program) (T E : TypeId) (z : Value) (size bytes : Nat) : Prop where
  und : P.underlying T = some (.slice E)
  inf : ∃ i, P.info? E = some i ∧ i.zero = some z ∧ i.size = size ∧ i.bytes = bytes
  zs : z.cells.size = size
  pos : 0 < size

theorem slT_of {P : Program} {T E : TypeId} {size bytes : Nat} {z : Value} (h : P.underlying T = some (.slice E))
    (hi : (P.info? E).map (fun i => (i.zero, i.size, i.bytes)) = some (some z, size, bytes)) (hz : z.cells.size = size) (hp : 0 < size) : SlT P T E z size bytes := by
  obtain ⟨i, h1, h2, h3, h4⟩ := info_parts hi
  exact ⟨h, ⟨i, h1, h2, h3, h4⟩, hz, hp⟩

/-- make of n elements: a new block of zero cells. -/
theorem make_row {P : Program} {T E : TypeId} {z : Value} {size bytes : Nat} (hT : SlT P T E z size bytes) (n : Nat) (hb : n * bytes ≤ 281474976710656) (hm : n ≤ 9223372036854775807) (w : World) :
    (Instr.makeSlice T (.int .i64 (n : Int)) (.int .i64 (n : Int))).run P w = .ok (.slice (some ⟨w.heap.size, 0, none⟩) n n) (w.alloc (.cells (madeCells z.cells (n * size)) E)) := by
  obtain ⟨i, hi, hz, hsz, hby⟩ := hT.inf
  have hb' : (i.bytes : Int) * (n : Int) ≤ 281474976710656 := by
    rw [hby, ← Int.natCast_mul, Nat.mul_comm]; omega
  have hr := run_make (P := P) w T E i z hT.und hi hz .i64 .i64 n n (by omega) (by omega) hb' (by omega)
  simp only [Int.toNat_natCast, hsz] at hr
  exact hr

/-- Block g holds just these cells, none of them frozen. -/
def Blk (w : World) (g : Nat) (t : TypeId) (cs : Array Value) : Prop := w.heap[g]? = some (.cells cs t (0, 0))
section
variable {w w' : World} {g : Nat} {t : TypeId} {cs : Array Value}
theorem Blk.lt (h : Blk w g t cs) : g < w.heap.size := by
  rcases Nat.lt_or_ge g w.heap.size with hlt | hge
  · exact hlt
  · unfold Blk at h; rw [Array.getElem?_eq_none hge] at h; cases h
theorem Blk.cell (h : Blk w g t cs) (i : Nat) : w.cell? ⟨g, i, none⟩ = cs[i]? := cell_of_row w g i cs t (0, 0) h
theorem Blk.frozen (h : Blk w g t cs) (i : Nat) : w.frozen? ⟨g, i, none⟩ = false := by
  unfold Blk at h
  simp [World.frozen?, h]
theorem Blk.new (w : World) (t : TypeId) (cs : Array Value) : Blk (w.alloc (.cells cs t)) w.heap.size t cs := heap_alloc_new w _
theorem Blk.drew (h : Blk w g t cs) : Blk w.drew g t cs := h
theorem Blk.alloc (h : Blk w g t cs) (o : Obj) : Blk (w.alloc o) g t cs := (Below.heap_alloc w o g h.lt).trans h
theorem Blk.set (h : Blk w g t cs) (i : Nat) (u : Value) : Blk (w.setCell ⟨g, i, none⟩ u) g t (cs.setIfInBounds i u) := by
  unfold Blk at h ⊢
  simp [World.setCell, Array.getElem?_modify, h]
theorem Blk.far (h : Blk w g t cs) {p : Addr} (hp : g ≠ p.block) (u : Value) : Blk (w.setCell p u) g t cs := (Below.heap_setCell w p u g hp).trans h
theorem Blk.below {B : Nat} (h : Blk w g t cs) (hb : Below B w w') (hg : g < B) : Blk w' g t cs := (hb.block g hg).trans h
theorem Blk.below' (h : Blk w g t cs) (hb : Below w.heap.size w w') : Blk w' g t cs := h.below hb h.lt
theorem Blk.grown {row : Option Nat} (h : Blk w g t cs) (hb : w.grownBy w' row) (hg : some g ≠ row) : Blk w' g t cs := (hb.block g h.lt hg).trans h
end

theorem grownBy_trans {a b c : World} {row : Option Nat} (h : a.grownBy b row) (k : b.grownBy c row) : a.grownBy c row :=
  ⟨k.os.trans h.os, k.tape.trans h.tape, k.output.trans h.output, Nat.le_trans h.size k.size,
    fun i hi hne => (k.block i (Nat.lt_of_lt_of_le hi h.size) hne).trans (h.block i hi hne)⟩
theorem grownBy_drew {a w : World} {row : Option Nat} (h : a.grownBy w row) : a.grownBy w.drew row := ⟨h.os, h.tape, h.output, h.size, h.block⟩
theorem below_of_grown {w w' : World} {B : Nat} {row : Option Nat} (hg : w.grownBy w' row) (hB : B ≤ w.heap.size) (hr : ∀ k, row = some k → B ≤ k) : Below B w w' :=
  (Below.refl B w).grown hg hB hr

/-! append(s, x..) of m elements, which the walk has just laid in a block of its own: outside and inside a region that draws its order. -/
theorem append_news {P : Program} {T E : TypeId} {z : Value} {size bytes : Nat} (hT : SlT P T E z size bytes) {w w0 : World} {ops : Array Oper} {rest : List Oper} {o : Oper} {a : Act} {Q : Exit → Act → World → Prop}
    (hgd : o.guard = none) (s x : Operand) (ho : o.op = .call { callee := .builtin .append, args := #[s, x], argTypes := #[T, T] })
    (v : Value) (n : Nat) (xs : List Value) (hbel : Below w0.heap.size w0 w) (hown : w.ownsRow w0.heap.size E size v n xs) (hs : a.eval s = v)
    (cs : Array Value) (m : Nat) (hcs : cs.size = m * size) (hx : a.eval x = .slice (some ⟨w.heap.size, 0, none⟩) m m) (h1 : ∀ u ∈ cs.toList, u.oneCell' = true)
    (hn : (n + m) * bytes ≤ 140737488355328) (hm : n + m ≤ maxLen)
    (h : ∀ v' w', w'.ownsRow w0.heap.size E size v' (n + m) (xs ++ cs.toList) → w.grownBy w' v.ownBlock → Below w0.heap.size w0 w' → wpList P ops Q rest (a.put o.dst v') w') :
    wpList P ops Q (o :: rest) a (w.alloc (.cells cs E)) := by
  obtain ⟨i, hi, hz, hsz, hby⟩ := hT.inf
  have hzs := hT.zs
  have hown' : (w.alloc (.cells cs E)).ownsRow w0.heap.size E size v n xs := hown.alloc _
  have hbase := hbel.size
  refine wpList_append_own _ hgd s x T ho w0.heap.size E i z size bytes hT.und hi hz hsz hby hzs hT.pos v n xs hs hown' ⟨w.heap.size, 0, none⟩ m m cs.toList hx (by simp [hcs]) ?_ h1 hm hn (by show w0.heap.size ≤ (w.heap.push _).size; simp; omega) ?_
  · intro j u hj
    have hadd : (⟨w.heap.size, 0, none⟩ : Addr).add j = ⟨w.heap.size, j, none⟩ := by unfold Addr.add; split <;> simp_all
    have hcell : (w.alloc (.cells cs E)).cell? ⟨w.heap.size, j, none⟩ = some u := by
      rw [World.cell?_alloc_at (hn := rfl)]
      simpa using hj
    rw [hadd]
    exact hcell
  · intro v' w' hv' hg _
    have hg0 : w.grownBy (w.alloc (.cells cs E)) v.ownBlock := World.grownBy_alloc _ _ _
    have hgr : w.grownBy w' v.ownBlock := grownBy_trans hg0 hg
    exact h v' w' hv' hgr (hbel.trans (below_of_grown hgr hbase (fun k hk => (hown.lt k hk).1)))
theorem append_news_d {P : Program} {T E : TypeId} {z : Value} {size bytes : Nat} (hT : SlT P T E z size bytes) {w w0 : World} {ops : Array Oper} {rest : List Oper} {o : Oper} {a : Act} {Q : Exit → Act → World → Prop}
    (hgd : o.guard = none) (s x : Operand) (ho : o.op = .call { callee := .builtin .append, args := #[s, x], argTypes := #[T, T] })
    (v : Value) (n : Nat) (xs : List Value) (hbel : Below w0.heap.size w0 w) (hown : w.ownsRow w0.heap.size E size v n xs) (hs : a.eval s = v)
    (cs : Array Value) (m : Nat) (hcs : cs.size = m * size) (hx : a.eval x = .slice (some ⟨w.heap.size, 0, none⟩) m m) (h1 : ∀ u ∈ cs.toList, u.oneCell' = true)
    (hn : (n + m) * bytes ≤ 140737488355328) (hm : n + m ≤ maxLen)
    (h : ∀ v' w', w'.ownsRow w0.heap.size E size v' (n + m) (xs ++ cs.toList) → w.grownBy w' v.ownBlock → Below w0.heap.size w0 w' → wpList P ops Q rest (a.put o.dst v') w') :
    wpList P ops Q (o :: rest) a (w.alloc (.cells cs E)).drew := by
  obtain ⟨i, hi, hz, hsz, hby⟩ := hT.inf
  have hzs := hT.zs
  have hown' : (w.alloc (.cells cs E)).drew.ownsRow w0.heap.size E size v n xs := hown.alloc _
  have hbase := hbel.size
  refine wpList_append_own _ hgd s x T ho w0.heap.size E i z size bytes hT.und hi hz hsz hby hzs hT.pos v n xs hs hown' ⟨w.heap.size, 0, none⟩ m m cs.toList hx (by simp [hcs]) ?_ h1 hm hn (by show w0.heap.size ≤ (w.heap.push _).size; simp; omega) ?_
  · intro j u hj
    have hadd : (⟨w.heap.size, 0, none⟩ : Addr).add j = ⟨w.heap.size, j, none⟩ := by unfold Addr.add; split <;> simp_all
    have hcell : (w.alloc (.cells cs E)).cell? ⟨w.heap.size, j, none⟩ = some u := by
      rw [World.cell?_alloc_at (hn := rfl)]
      simpa using hj
    rw [hadd]
    exact hcell
  · intro v' w' hv' hg _
    have hg0 : w.grownBy (w.alloc (.cells cs E)).drew v.ownBlock := grownBy_drew (World.grownBy_alloc _ _ _)
    have hgr : w.grownBy w' v.ownBlock := grownBy_trans hg0 hg
    exact h v' w' hv' hgr (hbel.trans (below_of_grown hgr hbase (fun k hk => (hown.lt k hk).1)))
theorem step_append_news {P : Program} {T E : TypeId} {z : Value} {size bytes : Nat} (hT : SlT P T E z size bytes) {w w0 : World} {ops : Array Oper} {o : Oper} {a : Act} {K : Act → World → Prop} {Q : Exit → Act → World → Prop} {F : Prop}
    (hgd : o.guard = none) (s x : Operand) (ho : o.op = .call { callee := .builtin .append, args := #[s, x], argTypes := #[T, T] })
    (v : Value) (n : Nat) (xs : List Value) (hbel : Below w0.heap.size w0 w) (hown : w.ownsRow w0.heap.size E size v n xs) (hs : a.eval s = v)
    (cs : Array Value) (m : Nat) (hcs : cs.size = m * size) (hx : a.eval x = .slice (some ⟨w.heap.size, 0, none⟩) m m) (h1 : ∀ u ∈ cs.toList, u.oneCell' = true)
    (hn : (n + m) * bytes ≤ 140737488355328) (hm : n + m ≤ maxLen)
    (h : ∀ v' w', w'.ownsRow w0.heap.size E size v' (n + m) (xs ++ cs.toList) → w.grownBy w' v.ownBlock → Below w0.heap.size w0 w' → K (a.put o.dst v') w') :
    if Region.wanted o (yielded ops a.tmps) = true then Oper.wp P o a (w.alloc (.cells cs E)) K Q else F := by
  have hw : Region.wanted o (yielded ops a.tmps) = true := by simp [Region.wanted, hgd]
  rw [if_pos hw]
  obtain ⟨i, hi, hz, hsz, hby⟩ := hT.inf
  have hzs := hT.zs
  have hown' : (w.alloc (.cells cs E)).ownsRow w0.heap.size E size v n xs := hown.alloc _
  have hbase := hbel.size
  refine wp_append_own _ s x T ho w0.heap.size E i z size bytes hT.und hi hz hsz hby hzs hT.pos v n xs hs hown' ⟨w.heap.size, 0, none⟩ m m cs.toList hx (by simp [hcs]) ?_ h1 hm hn (by show w0.heap.size ≤ (w.heap.push _).size; simp; omega) ?_
  · intro j u hj
    have hadd : (⟨w.heap.size, 0, none⟩ : Addr).add j = ⟨w.heap.size, j, none⟩ := by unfold Addr.add; split <;> simp_all
    have hcell : (w.alloc (.cells cs E)).cell? ⟨w.heap.size, j, none⟩ = some u := by
      rw [World.cell?_alloc_at (hn := rfl)]
      simpa using hj
    rw [hadd]
    exact hcell
  · intro v' w' hv' hg _
    have hg0 : w.grownBy (w.alloc (.cells cs E)) v.ownBlock := World.grownBy_alloc _ _ _
    have hgr : w.grownBy w' v.ownBlock := grownBy_trans hg0 hg
    exact h v' w' hv' hgr (hbel.trans (below_of_grown hgr hbase (fun k hk => (hown.lt k hk).1)))
theorem step_append_news_d {P : Program} {T E : TypeId} {z : Value} {size bytes : Nat} (hT : SlT P T E z size bytes) {w w0 : World} {ops : Array Oper} {o : Oper} {a : Act} {K : Act → World → Prop} {Q : Exit → Act → World → Prop} {F : Prop}
    (hgd : o.guard = none) (s x : Operand) (ho : o.op = .call { callee := .builtin .append, args := #[s, x], argTypes := #[T, T] })
    (v : Value) (n : Nat) (xs : List Value) (hbel : Below w0.heap.size w0 w) (hown : w.ownsRow w0.heap.size E size v n xs) (hs : a.eval s = v)
    (cs : Array Value) (m : Nat) (hcs : cs.size = m * size) (hx : a.eval x = .slice (some ⟨w.heap.size, 0, none⟩) m m) (h1 : ∀ u ∈ cs.toList, u.oneCell' = true)
    (hn : (n + m) * bytes ≤ 140737488355328) (hm : n + m ≤ maxLen)
    (h : ∀ v' w', w'.ownsRow w0.heap.size E size v' (n + m) (xs ++ cs.toList) → w.grownBy w' v.ownBlock → Below w0.heap.size w0 w' → K (a.put o.dst v') w') :
    if Region.wanted o (yielded ops a.tmps) = true then Oper.wp P o a (w.alloc (.cells cs E)).drew K Q else F := by
  have hw : Region.wanted o (yielded ops a.tmps) = true := by simp [Region.wanted, hgd]
  rw [if_pos hw]
  obtain ⟨i, hi, hz, hsz, hby⟩ := hT.inf
  have hzs := hT.zs
  have hown' : (w.alloc (.cells cs E)).drew.ownsRow w0.heap.size E size v n xs := hown.alloc _
  have hbase := hbel.size
  refine wp_append_own _ s x T ho w0.heap.size E i z size bytes hT.und hi hz hsz hby hzs hT.pos v n xs hs hown' ⟨w.heap.size, 0, none⟩ m m cs.toList hx (by simp [hcs]) ?_ h1 hm hn (by show w0.heap.size ≤ (w.heap.push _).size; simp; omega) ?_
  · intro j u hj
    have hadd : (⟨w.heap.size, 0, none⟩ : Addr).add j = ⟨w.heap.size, j, none⟩ := by unfold Addr.add; split <;> simp_all
    have hcell : (w.alloc (.cells cs E)).cell? ⟨w.heap.size, j, none⟩ = some u := by
      rw [World.cell?_alloc_at (hn := rfl)]
      simpa using hj
    rw [hadd]
    exact hcell
  · intro v' w' hv' hg _
    have hg0 : w.grownBy (w.alloc (.cells cs E)).drew v.ownBlock := grownBy_drew (World.grownBy_alloc _ _ _)
    have hgr : w.grownBy w' v.ownBlock := grownBy_trans hg0 hg
    exact h v' w' hv' hgr (hbel.trans (below_of_grown hgr hbase (fun k hk => (hown.lt k hk).1)))
end Go.Proofs.YtpdmdfkcaabnaaaGreatDoor
/- What a value in memory reads as, and in which blocks it lies: rows of cells, elements one by one, slices of whatever elements. Over any program; no condition. -/
namespace Go.Proofs.YtpdmdfkcaabnaaaGreatDoor
open Go.RowKit
set_option linter.unusedVariables false
set_option linter.unusedSimpArgs false

/-- An int's bounds. -/
def I64 (n : Int) : Prop := -9223372036854775808 ≤ n ∧ n ≤ 9223372036854775807

/-! ### A row of cells -/
/-- A slice value of n elements of type E (sz cells each) whose cells are xs; o is its block (none: it has no cells, and no room for any). -/
def Row (w : World) (E : TypeId) (sz : Nat) (v : Value) (n : Nat) (xs : List Value) (o : Option Nat) : Prop :=
  xs.length = n * sz ∧
  ((∃ a, v = .slice a 0 0 ∧ n = 0 ∧ o = none) ∨
   ∃ g cap cur, v = .slice (some ⟨g, 0, none⟩) n cap ∧ o = some g ∧ w.heap[g]? = some (.cells cur E (0, 0)) ∧ n ≤ cap ∧ cap ≤ maxLen ∧ cur.size = cap * sz ∧ cur.toList.take (n * sz) = xs)

section
variable {w w' : World} {E : TypeId} {sz : Nat} {v : Value} {n : Nat} {xs : List Value} {o : Option Nat}
theorem Row.form (h : Row w E sz v n xs o) : ∃ a cap, v = .slice a n cap := by
  rcases h.2 with ⟨a, rfl, rfl, _⟩ | ⟨g, cap, cur, rfl, _⟩
  · exact ⟨_, _, rfl⟩
  · exact ⟨_, _, rfl⟩
theorem Row.frame (h : Row w E sz v n xs o) (hf : ∀ g, o = some g → w'.heap[g]? = w.heap[g]?) : Row w' E sz v n xs o := by
  refine ⟨h.1, ?_⟩
  rcases h.2 with h2 | ⟨g, cap, cur, hv, ho, hg, r⟩
  · exact .inl h2
  · exact .inr ⟨g, cap, cur, hv, ho, (hf g ho).trans hg, r⟩
theorem Row.lt (h : Row w E sz v n xs o) : ∀ g, o = some g → g < w.heap.size := by
  intro g hg
  rcases h.2 with ⟨_, _, _, ho⟩ | ⟨g', cap, cur, _, ho, hh, _⟩
  · rw [ho] at hg; cases hg
  · rw [ho] at hg; cases hg
    exact (Array.getElem?_eq_some_iff.1 hh).1
theorem Row.le_max (h : Row w E sz v n xs o) : n ≤ maxLen := by
  rcases h.2 with ⟨_, _, hn, _⟩ | ⟨g', cap, cur, _, ho, hh, h1, h2, _⟩
  · omega
  · omega
theorem Row.nilv (w : World) (E : TypeId) (sz : Nat) : Row w E sz (.slice none 0 0) 0 [] none := ⟨by simp, .inl ⟨none, rfl, rfl, rfl⟩⟩
theorem Row.of_own {base : Nat} (h : w.ownsRow base E sz v n xs) : ∃ o, Row w E sz v n xs o ∧ o = v.ownBlock := by
  rcases h with ⟨h1, ⟨rfl, rfl⟩ | ⟨g, cap, cur, rfl, hb, hg, r⟩⟩
  · exact ⟨none, ⟨h1, .inl ⟨none, rfl, rfl, rfl⟩⟩, rfl⟩
  · exact ⟨some g, ⟨h1, .inr ⟨g, cap, cur, rfl, rfl, hg, r⟩⟩, rfl⟩
/-- Where there is an element there is a block. -/
theorem Row.at {a : Option Addr} {cap : Nat} (h : Row w E sz (.slice a n cap) n xs o) (hn : 0 < n) :
    ∃ g, a = some ⟨g, 0, none⟩ ∧ o = some g ∧ (∀ j u, xs[j]? = some u → w.cell? ⟨g, j, none⟩ = some u) ∧ ∀ j, w.frozen? ⟨g, j, none⟩ = false := by
  rcases h.2 with ⟨_, _, h0, _⟩ | ⟨g, cap', cur, hv, ho, hg, h1, h2, h3, h4⟩
  · omega
  · cases hv
    refine ⟨g, rfl, ho, fun j u hj => ?_, fun j => by simp [World.frozen?, hg]⟩
    rw [cell_of_row w g j cur E (0, 0) hg]
    rw [← h4, List.getElem?_take] at hj
    split at hj
    · simpa using hj
    · cases hj
/-- One cell of a row is stored. -/
theorem Row.set {g : Nat} (h : Row w E sz v n xs (some g)) (j : Nat) (u : Value) : Row (w.setCell ⟨g, j, none⟩ u) E sz v n (xs.set j u) (some g) := by
  refine ⟨by simpa using h.1, ?_⟩
  rcases h.2 with ⟨_, _, _, ho⟩ | ⟨g', cap, cur, hv, ho, hg, h1, h2, h3, h4⟩
  · cases ho
  · cases ho
    refine .inr ⟨g, cap, cur.setIfInBounds j u, hv, rfl, ?_, h1, h2, by simpa using h3, ?_⟩
    · simp [World.setCell, Array.getElem?_modify, hg]
    · rw [← h4, Array.toList_setIfInBounds, List.take_set]
theorem Row.below {B : Nat} (h : Row w E sz v n xs o) (hb : Below B w w') (ho : ∀ g, o = some g → g < B) : Row w' E sz v n xs o :=
  h.frame fun g hg => hb.block g (ho g hg)
theorem Row.below' (h : Row w E sz v n xs o) (hb : Below w.heap.size w w') : Row w' E sz v n xs o := h.below hb h.lt
/-- A made row. -/
theorem Row.made (w : World) (cs : Array Value) (n : Nat) (hm : n ≤ maxLen) (hs : cs.size = n * sz) :
    Row (w.alloc (.cells cs E)) E sz (.slice (some ⟨w.heap.size, 0, none⟩) n n) n cs.toList (some w.heap.size) :=
  ⟨by simpa using hs, .inr ⟨w.heap.size, n, cs, rfl, rfl, heap_alloc_new w _, Nat.le_refl _, hm, hs, List.take_of_length_le (by simp [hs])⟩⟩
end

/-! ### Elements one by one -/
/-- How a datum reads off cells, and in which blocks what it leads to lies. -/
abbrev Rd (α : Type) := World → List Value → α → List Nat → Prop
structure Good {α : Type} (R : Rd α) : Prop where
  frame : ∀ {w w' : World} {cs : List Value} {d : α} {f : List Nat}, R w cs d f → (∀ g ∈ f, w'.heap[g]? = w.heap[g]?) → R w' cs d f
  lt : ∀ {w : World} {cs : List Value} {d : α} {f : List Nat}, R w cs d f → ∀ g ∈ f, g < w.heap.size
theorem Good.below {α : Type} {R : Rd α} (hR : Good R) {w w' : World} {B : Nat} {cs : List Value} {d : α} {f : List Nat} (h : R w cs d f) (hb : Below B w w') (hf : ∀ g ∈ f, g < B) : R w' cs d f :=
  hR.frame h fun g hg => hb.block g (hf g hg)
theorem Good.below' {α : Type} {R : Rd α} (hR : Good R) {w w' : World} {cs : List Value} {d : α} {f : List Nat} (h : R w cs d f) (hb : Below w.heap.size w w') : R w' cs d f :=
  hR.below h hb (hR.lt h)

inductive All {α : Type} (R : Rd α) (w : World) : List (List Value) → List α → List (List Nat) → Prop
  | nil : All R w [] [] []
  | cons {c : List Value} {d : α} {f : List Nat} {cs : List (List Value)} {ds : List α} {fs : List (List Nat)} : R w c d f → All R w cs ds fs → All R w (c :: cs) (d :: ds) (f :: fs)
section
variable {α : Type} {R : Rd α} {w w' : World} {cs : List (List Value)} {ds : List α} {fs : List (List Nat)}
theorem All.len (h : All R w cs ds fs) : cs.length = ds.length ∧ fs.length = ds.length := by
  induction h with
  | nil => exact ⟨rfl, rfl⟩
  | cons _ _ ih => simp [ih.1, ih.2]
theorem All.frame (hR : Good R) (h : All R w cs ds fs) (hf : ∀ g ∈ fs.flatten, w'.heap[g]? = w.heap[g]?) : All R w' cs ds fs := by
  induction h with
  | nil => exact .nil
  | cons h1 _ ih =>
    refine .cons (hR.frame h1 fun g hg => hf g (by simp [hg])) (ih fun g hg => hf g ?_)
    simp only [List.flatten_cons, List.mem_append]
    exact .inr hg
theorem All.lt (hR : Good R) (h : All R w cs ds fs) : ∀ g ∈ fs.flatten, g < w.heap.size := by
  induction h with
  | nil => simp
  | cons h1 _ ih =>
    intro g hg
    simp only [List.flatten_cons, List.mem_append] at hg
    rcases hg with hg | hg
    · exact hR.lt h1 g hg
    · exact ih g hg
theorem All.append {cs' : List (List Value)} {ds' : List α} {fs' : List (List Nat)} (h : All R w cs ds fs) (h' : All R w cs' ds' fs') : All R w (cs ++ cs') (ds ++ ds') (fs ++ fs') := by
  induction h with
  | nil => exact h'
  | cons h1 _ ih => exact .cons h1 ih
theorem All.snoc {c : List Value} {d : α} {f : List Nat} (h : All R w cs ds fs) (h' : R w c d f) : All R w (cs ++ [c]) (ds ++ [d]) (fs ++ [f]) := h.append (.cons h' .nil)
theorem All.get (h : All R w cs ds fs) : ∀ i (hi : i < ds.length), ∃ c f, cs[i]? = some c ∧ fs[i]? = some f ∧ R w c ds[i] f := by
  induction h with
  | nil => intro i hi; simp at hi
  | cons h1 _ ih =>
    intro i hi
    cases i with
    | zero => exact ⟨_, _, rfl, rfl, h1⟩
    | succ i =>
      obtain ⟨c, f, hc, hf, hr⟩ := ih i (by simpa using hi)
      exact ⟨c, f, by simpa using hc, by simpa using hf, by simpa using hr⟩
theorem All.set {c : List Value} {d : α} {f : List Nat} (h : All R w cs ds fs) : ∀ i (_ : R w c d f), All R w (cs.set i c) (ds.set i d) (fs.set i f) := by
  induction h with
  | nil => intro i _; simpa using All.nil
  | cons h1 h2 ih =>
    intro i hr
    cases i with
    | zero => exact .cons hr h2
    | succ i => exact .cons h1 (ih i hr)
end

theorem flat_get {sz : Nat} {rows : List (List Value)} (hl : ∀ c ∈ rows, c.length = sz) : ∀ (i : Nat) (c : List Value) (j : Nat) (u : Value), rows[i]? = some c → c[j]? = some u → rows.flatten[i * sz + j]? = some u := by
  induction rows with
  | nil => intro i c j u h; simp at h
  | cons r rows ih =>
    intro i c j u h hj
    have hr : r.length = sz := hl r (by simp)
    cases i with
    | zero =>
      simp only [List.getElem?_cons_zero, Option.some.injEq] at h
      subst h
      have hjl : j < r.length := (List.getElem?_eq_some_iff.1 hj).1
      simp only [Nat.zero_mul, Nat.zero_add, List.flatten_cons]
      rw [List.getElem?_append_left hjl]; exact hj
    | succ i =>
      simp only [List.getElem?_cons_succ] at h
      rw [List.flatten_cons, List.getElem?_append_right (by rw [hr, Nat.succ_mul]; omega)]
      have e : (i + 1) * sz + j - r.length = i * sz + j := by rw [hr, Nat.succ_mul]; omega
      rw [e]
      exact ih (fun c hc => hl c (by simp [hc])) i c j u h hj
theorem flat_set {sz : Nat} {rows : List (List Value)} (hl : ∀ c ∈ rows, c.length = sz) : ∀ (i : Nat) (c : List Value) (j : Nat) (u : Value), rows[i]? = some c → j < sz → rows.flatten.set (i * sz + j) u = (rows.set i (c.set j u)).flatten := by
  induction rows with
  | nil => intro i c j u h; simp at h
  | cons r rows ih =>
    intro i c j u h hj
    have hr : r.length = sz := hl r (by simp)
    cases i with
    | zero =>
      simp only [List.getElem?_cons_zero, Option.some.injEq] at h
      subst h
      simp only [Nat.zero_mul, Nat.zero_add, List.flatten_cons, List.set_cons_zero]
      rw [List.set_append_left _ _ (by omega)]
    | succ i =>
      simp only [List.getElem?_cons_succ] at h
      simp only [List.flatten_cons, List.set_cons_succ]
      rw [List.set_append_right _ _ (by rw [hr, Nat.succ_mul]; omega)]
      have e : (i + 1) * sz + j - r.length = i * sz + j := by rw [hr, Nat.succ_mul]; omega
      rw [e, ih (fun c hc => hl c (by simp [hc])) i c j u h hj]

/-! ### Slices -/
/-- A slice value that reads as a list, each element by R; f: the blocks, its own first. -/
def slR {α : Type} (E : TypeId) (sz : Nat) (R : Rd α) (w : World) (v : Value) (l : List α) (f : List Nat) : Prop :=
  ∃ rows fs o, All R w rows l fs ∧ (∀ c ∈ rows, c.length = sz) ∧ Row w E sz v l.length rows.flatten o ∧ f = o.toList ++ fs.flatten
section
variable {α : Type} {E : TypeId} {sz : Nat} {R : Rd α} {w w' : World} {v : Value} {l : List α} {f : List Nat}
theorem slR.form (h : slR E sz R w v l f) : ∃ a cap, v = .slice a l.length cap := by
  obtain ⟨_, _, _, _, _, h, _⟩ := h; exact h.form
theorem slR.le_max (h : slR E sz R w v l f) : l.length ≤ 9223372036854775807 := by
  obtain ⟨_, _, _, _, _, h, _⟩ := h; exact h.le_max
theorem slR.frame (hR : Good R) (h : slR E sz R w v l f) (hf : ∀ g ∈ f, w'.heap[g]? = w.heap[g]?) : slR E sz R w' v l f := by
  obtain ⟨rows, fs, o, ha, hl, hr, rfl⟩ := h
  exact ⟨rows, fs, o, ha.frame hR fun g hg => hf g (by rw [List.mem_append]; exact .inr hg), hl, hr.frame fun g hg => hf g (by simp [hg]), rfl⟩
theorem slR.lt (hR : Good R) (h : slR E sz R w v l f) : ∀ g ∈ f, g < w.heap.size := by
  obtain ⟨rows, fs, o, ha, hl, hr, rfl⟩ := h
  intro g hg
  rw [List.mem_append] at hg
  rcases hg with hg | hg
  · exact hr.lt g (by simpa using hg)
  · exact ha.lt hR g hg
theorem slR.below (hR : Good R) {B : Nat} (h : slR E sz R w v l f) (hb : Below B w w') (hf : ∀ g ∈ f, g < B) : slR E sz R w' v l f :=
  h.frame hR fun g hg => hb.block g (hf g hg)
theorem slR.below' (hR : Good R) (h : slR E sz R w v l f) (hb : Below w.heap.size w w') : slR E sz R w' v l f := h.below hR hb (h.lt hR)
theorem slR.nilv (w : World) (E : TypeId) (sz : Nat) (R : Rd α) : slR E sz R w (.slice none 0 0) [] [] := ⟨[], [], none, .nil, by simp, Row.nilv w E sz, rfl⟩
theorem slR.far (hR : Good R) (h : slR E sz R w v l f) {p : Addr} (hp : p.block ∉ f) (u : Value) : slR E sz R (w.setCell p u) v l f :=
  h.frame hR fun g hg => Below.heap_setCell _ _ _ _ (fun e => hp (e ▸ hg))
/-- The i-th element. -/
theorem slR.at {a : Option Addr} {n cap : Nat} (h : slR E sz R w (.slice a n cap) l f) (i : Nat) (hi : i < l.length) :
    ∃ g c fi, a = some ⟨g, 0, none⟩ ∧ R w c l[i] fi ∧ c.length = sz ∧ (∀ j u, c[j]? = some u → w.cell? ⟨g, i * sz + j, none⟩ = some u) ∧ (∀ j, w.frozen? ⟨g, j, none⟩ = false) ∧ g ∈ f ∧ ∀ x ∈ fi, x ∈ f := by
  obtain ⟨rows, fs, o, ha, hl, hr, rfl⟩ := h
  obtain ⟨a', cap', hv⟩ := hr.form
  cases hv
  obtain ⟨g, rfl, rfl, hc, hfz⟩ := hr.at (by omega)
  obtain ⟨c, fi, hci, hfi, hR⟩ := ha.get i hi
  refine ⟨g, c, fi, rfl, hR, hl c (List.mem_of_getElem? hci), fun j u hj => hc _ _ (flat_get hl i c j u hci hj), hfz, by simp, fun x hx => ?_⟩
  rw [List.mem_append]
  exact .inr (List.mem_flatten.2 ⟨fi, List.mem_of_getElem? hfi, hx⟩)
end
/-- As the one cell of a field or of an element. -/
def elR {α : Type} (E : TypeId) (sz : Nat) (R : Rd α) : Rd (List α) := fun w cs l f => ∃ v, cs = [v] ∧ slR E sz R w v l f
theorem good_el {α : Type} {E : TypeId} {sz : Nat} {R : Rd α} (hR : Good R) : Good (elR E sz R) :=
  ⟨fun ⟨v, hv, h⟩ hf => ⟨v, hv, h.frame hR hf⟩, fun ⟨v, hv, h⟩ => h.lt hR⟩
/-- An integer. -/
def intR : Rd Int := fun _ cs d f => cs = [.int .i64 d] ∧ f = [] ∧ I64 d
theorem good_int : Good intR := ⟨fun h _ => h, fun h => by rw [h.2.1]; simp⟩

/-- Blocks of the call's own: none twice, all from B on. -/
def Fresh (B : Nat) (f : List Nat) : Prop := f.Nodup ∧ ∀ g ∈ f, B ≤ g
theorem Fresh.nil (B : Nat) : Fresh B [] := ⟨by simp, by simp⟩
theorem Fresh.mono {B B' : Nat} {f : List Nat} (h : Fresh B f) (hB : B' ≤ B) : Fresh B' f := ⟨h.1, fun g hg => Nat.le_trans hB (h.2 g hg)⟩
theorem Fresh.notin {B b : Nat} {f : List Nat} (h : Fresh B f) (hb : b < B) : b ∉ f := fun hm => by have := h.2 b hm; omega
theorem Fresh.append {B M : Nat} {f f' : List Nat} (h : Fresh B f) (h' : Fresh M f') (hM : B ≤ M) (hlt : ∀ g ∈ f, g < M) : Fresh B (f ++ f') := by
  refine ⟨List.nodup_append.2 ⟨h.1, h'.1, fun a ha b hb e => ?_⟩, fun g hg => ?_⟩
  · subst e
    have := hlt a ha
    have := h'.2 a hb
    omega
  · rw [List.mem_append] at hg
    rcases hg with hg | hg
    · exact h.2 g hg
    · exact Nat.le_trans hM (h'.2 g hg)
/-- Of what was there only these blocks may have been written. -/
structure Wrote (f : List Nat) (w w' : World) : Prop where
  os : w'.os = w.os
  tape : w'.tape = w.tape
  output : w'.output = w.output
  size : w.heap.size ≤ w'.heap.size
  block : ∀ k, k < w.heap.size → k ∉ f → w'.heap[k]? = w.heap[k]?
theorem Wrote.refl (f : List Nat) (w : World) : Wrote f w w := ⟨rfl, rfl, rfl, Nat.le_refl _, fun _ _ _ => rfl⟩
theorem Wrote.trans {f : List Nat} {a b c : World} (h : Wrote f a b) (k : Wrote f b c) : Wrote f a c :=
  ⟨k.os.trans h.os, k.tape.trans h.tape, k.output.trans h.output, Nat.le_trans h.size k.size, fun i hi hn => (k.block i (Nat.lt_of_lt_of_le hi h.size) hn).trans (h.block i hi hn)⟩
theorem Wrote.mono {f f' : List Nat} {a b : World} (h : Wrote f a b) (hf : ∀ g ∈ f, g ∈ f') : Wrote f' a b := ⟨h.os, h.tape, h.output, h.size, fun i hi hn => h.block i hi fun hg => hn (hf i hg)⟩
theorem Wrote.setCell {f : List Nat} {a w : World} (h : Wrote f a w) {p : Addr} (hp : p.block ∈ f) (u : Value) : Wrote f a (w.setCell p u) :=
  h.trans ⟨rfl, rfl, rfl, by simp [World.setCell], fun k hk hn => Below.heap_setCell _ _ _ _ (fun e => hn (e ▸ hp))⟩
theorem Wrote.of_below {f : List Nat} {a w : World} (h : Below a.heap.size a w) : Wrote f a w := ⟨h.os, h.tape, h.output, h.size, fun k hk _ => h.block k hk⟩
theorem Wrote.drew {f : List Nat} {a w : World} (h : Wrote f a w) : Wrote f a w.drew := ⟨h.os, h.tape, h.output, h.size, h.block⟩
theorem Wrote.alloc {f : List Nat} {a w : World} (h : Wrote f a w) (o : Obj) : Wrote f a (w.alloc o) := h.trans (Wrote.of_below ((Below.refl _ _).alloc (Nat.le_refl _) o))
theorem Wrote.cellAt {f : List Nat} {a w : World} (h : Wrote f a w) {b o : Nat} (hb : b < a.heap.size) (hn : b ∉ f) : w.cell? ⟨b, o, none⟩ = a.cell? ⟨b, o, none⟩ := World.cell?_of_block (h.block b hb hn)
/-- What lies below B is as it was, where all that was written lies from B on. -/
theorem Wrote.below {f : List Nat} {a w : World} {B : Nat} (h : Wrote f a w) (hB : B ≤ a.heap.size) (hf : ∀ g ∈ f, B ≤ g) : Below B a w :=
  ⟨h.os, h.tape, h.output, h.size, fun k hk => h.block k (by omega) fun hg => by have := hf k hg; omega⟩
/-! ### A made slice that is filled from its head on -/
/-- The first k elements read as l's, the rest holds zero cells zc. -/
def partR {α : Type} (E : TypeId) (sz : Nat) (R : Rd α) (zc : List Value) (w : World) (g : Nat) (l : List α) (k : Nat) (f : List Nat) : Prop :=
  ∃ rows fs, All R w rows (l.take k) fs ∧ (∀ c ∈ rows, c.length = sz) ∧ Row w E sz (.slice (some ⟨g, 0, none⟩) l.length l.length) l.length (rows ++ List.replicate (l.length - k) zc).flatten (some g) ∧ f = fs.flatten
/-- Cells stored one behind the other. -/
def storeAll (w : World) (g off : Nat) : List Value → World
  | [] => w
  | u :: r => storeAll (w.setCell ⟨g, off, none⟩ u) g (off + 1) r
theorem madeCells_rows (z : Value) (sz n : Nat) (hz : z.cells.size = sz) (hp : 0 < sz) : (madeCells z.cells (n * sz)).toList = (List.replicate n z.cells.toList).flatten := by
  apply List.ext_getElem?
  intro i
  by_cases hi : i < n * sz
  · have hq : i / sz < n := Nat.div_lt_of_lt_mul (by rw [Nat.mul_comm]; exact hi)
    have hr : i % sz < sz := Nat.mod_lt _ hp
    have hm : (madeCells z.cells (n * sz)).toList[i]? = some (z.cells[i % z.cells.size]!) := by
      simp only [madeCells, Array.getElem?_toList]
      rw [Array.getElem?_map, Array.getElem?_range, if_pos hi]; rfl
    rw [hm]
    have hl : ∀ c ∈ List.replicate n z.cells.toList, c.length = sz := by
      intro c hc; rw [(List.mem_replicate.1 hc).2]; simpa using hz
    have h1 : (List.replicate n z.cells.toList)[i / sz]? = some z.cells.toList := by rw [List.getElem?_replicate, if_pos hq]
    have h2 : z.cells.toList[i % sz]? = some (z.cells[i % z.cells.size]!) := by
      have hlt : i % sz < z.cells.size := by omega
      rw [hz, Array.getElem?_toList, Array.getElem?_eq_getElem hlt, getElem!_pos z.cells (i % sz) hlt]
    have := flat_get hl (i / sz) _ (i % sz) _ h1 h2
    rw [show i / sz * sz + i % sz = i from by rw [Nat.mul_comm]; exact Nat.div_add_mod i sz] at this
    exact this.symm
  · have h1 : (madeCells z.cells (n * sz)).toList.length ≤ i := by simp [size_madeCells]; omega
    have h2 : (List.replicate n z.cells.toList).flatten.length ≤ i := by
      simp [List.length_flatten, hz]; omega
    rw [List.getElem?_eq_none h1, List.getElem?_eq_none h2]
section
variable {α : Type} {E : TypeId} {sz : Nat} {R : Rd α} {zc : List Value} {w w' : World} {g : Nat} {l : List α} {k : Nat} {f : List Nat}
theorem part_start (w : World) (z : Value) (hz : z.cells.size = sz) (hp : 0 < sz) (l : List α) (hm : l.length ≤ maxLen) :
    partR E sz R z.cells.toList (w.alloc (.cells (madeCells z.cells (l.length * sz)) E)) w.heap.size l 0 [] := by
  refine ⟨[], [], .nil, by simp, ?_, rfl⟩
  have := Row.made (E := E) (sz := sz) w (madeCells z.cells (l.length * sz)) l.length hm (by rw [size_madeCells])
  rw [madeCells_rows z sz l.length hz hp] at this
  simpa using this
theorem part_rows (hk : k < l.length) (rows : List (List Value)) (hr : rows.length = k) : (rows ++ List.replicate (l.length - k) zc)[k]? = some zc := by
  rw [List.getElem?_append_right (by omega), List.getElem?_replicate, if_pos (by omega)]
theorem part_cells (h : partR E sz R zc w g l k f) (hk : k < l.length) (hz : zc.length = sz) : ∀ j u, zc[j]? = some u → w.cell? ⟨g, k * sz + j, none⟩ = some u := by
  intro j u hj
  obtain ⟨rows, fs, ha, hl, hr, rfl⟩ := h
  have hlen := ha.len.1
  rw [List.length_take] at hlen
  obtain ⟨g', hg, hg2, hc, _⟩ := hr.at (by omega)
  cases hg2
  refine hc _ _ (flat_get (sz := sz) ?_ k zc j u (part_rows hk rows (by omega)) hj)
  intro c hc
  rw [List.mem_append] at hc
  rcases hc with hc | hc
  · exact hl c hc
  · rw [(List.mem_replicate.1 hc).2]; exact hz
theorem part_frozen (h : partR E sz R zc w g l k f) (hk : k < l.length) (j : Nat) : w.frozen? ⟨g, j, none⟩ = false := by
  obtain ⟨rows, fs, ha, hl, hr, rfl⟩ := h
  obtain ⟨g', hg, hg2, _, hf⟩ := hr.at (by omega)
  cases hg2
  exact hf j
theorem part_lt (hR : Good R) (h : partR E sz R zc w g l k f) : g < w.heap.size ∧ ∀ x ∈ f, x < w.heap.size := by
  obtain ⟨rows, fs, ha, hl, hr, rfl⟩ := h
  exact ⟨hr.lt g rfl, ha.lt hR⟩
theorem part_frame (hR : Good R) (h : partR E sz R zc w g l k f) (hg : w'.heap[g]? = w.heap[g]?) (hf : ∀ x ∈ f, w'.heap[x]? = w.heap[x]?) : partR E sz R zc w' g l k f := by
  obtain ⟨rows, fs, ha, hl, hr, rfl⟩ := h
  exact ⟨rows, fs, ha.frame hR hf, hl, hr.frame fun x hx => by cases hx; exact hg, rfl⟩
theorem part_below (hR : Good R) (h : partR E sz R zc w g l k f) (hb : Below w.heap.size w w') : partR E sz R zc w' g l k f :=
  part_frame hR h (hb.block g (part_lt hR h).1) fun x hx => hb.block x ((part_lt hR h).2 x hx)
theorem set_self {β : Type} {l : List β} {i : Nat} {x : β} (h : l[i]? = some x) : l.set i x = l := by
  apply List.ext_getElem?
  intro j
  rw [List.getElem?_set]
  split
  · rename_i e; subst e
    split
    · exact h.symm
    · rename_i hn; rw [List.getElem?_eq_none (by omega)] at h; cases h
  · rfl
theorem row_storeAll {o : Nat} {v : Value} {n : Nat} (hp : 0 < sz) : ∀ (c : List Value) (rows : List (List Value)) (w : World) (i j : Nat) (old : List Value), (∀ r ∈ rows, r.length = sz) → rows[i]? = some old → j + c.length = sz →
    Row w E sz v n rows.flatten (some o) → Row (storeAll w o (i * sz + j) c) E sz v n (rows.set i (old.take j ++ c)).flatten (some o)
  | [], rows, w, i, j, old, hl, hi, hj, h => by
    have e : old.take j ++ [] = old := by
      rw [List.append_nil, List.take_of_length_le]
      have := hl old (List.mem_of_getElem? hi)
      simp at hj; omega
    rw [e, set_self hi]
    exact h
  | u :: c, rows, w, i, j, old, hl, hi, hj, h => by
    have holen := hl old (List.mem_of_getElem? hi)
    simp only [List.length_cons] at hj
    have hs := h.set (i * sz + j) u
    rw [flat_set hl i old j u hi (by omega)] at hs
    have hil : i < rows.length := (List.getElem?_eq_some_iff.1 hi).1
    have := row_storeAll hp c (rows.set i (old.set j u)) (w.setCell ⟨o, i * sz + j, none⟩ u) i (j + 1) (old.set j u) (by
      intro r hr
      rcases List.mem_or_eq_of_mem_set hr with h1 | rfl
      · exact hl r h1
      · simpa using holen) (by simp [hil]) (by omega) hs
    rw [List.set_set] at this
    have e : (old.set j u).take (j + 1) ++ c = old.take j ++ u :: c := by
      rw [List.take_succ_eq_append_getElem (by simp; omega), List.take_set, List.set_eq_of_length_le (by simp; omega)]
      simp
    rw [e] at this
    exact this
theorem storeAll_block (c : List Value) : ∀ (w : World) (g off x : Nat), x ≠ g → (storeAll w g off c).heap[x]? = w.heap[x]? := by
  induction c with
  | nil => intro w g off x _; rfl
  | cons u c ih => intro w g off x hx; exact (ih _ g (off + 1) x hx).trans (Below.heap_setCell _ _ _ _ hx)
theorem part_step (hR : Good R) (hp : 0 < sz) (h : partR E sz R zc w g l k f) (hk : k < l.length) (hz : zc.length = sz) {c : List Value} {fk : List Nat} (hc : c.length = sz) (hr : R w c l[k] fk) (hg : g ∉ f) (hgk : g ∉ fk) :
    partR E sz R zc (storeAll w g (k * sz) c) g l (k + 1) (f ++ fk) := by
  obtain ⟨rows, fs, ha, hl, hrow, rfl⟩ := h
  have hlen := ha.len.1
  rw [List.length_take] at hlen
  have hlk : rows.length = k := by omega
  have hfr : ∀ x, x ≠ g → (storeAll w g (k * sz) c).heap[x]? = w.heap[x]? := fun x hx => storeAll_block c w g (k * sz) x hx
  have hl' : ∀ r ∈ rows ++ List.replicate (l.length - k) zc, r.length = sz := by
    intro r hr
    rw [List.mem_append] at hr
    rcases hr with hr | hr
    · exact hl r hr
    · rw [(List.mem_replicate.1 hr).2]; exact hz
  have hs := row_storeAll hp c _ w k 0 zc hl' (part_rows hk rows hlk) (by omega) hrow
  have e : (rows ++ List.replicate (l.length - k) zc).set k (zc.take 0 ++ c) = (rows ++ [c]) ++ List.replicate (l.length - (k + 1)) zc := by
    rw [List.set_append_right _ _ (by omega), hlk, Nat.sub_self, show l.length - k = (l.length - (k + 1)) + 1 from by omega, List.replicate_succ, List.set_cons_zero]
    simp
  rw [e] at hs
  refine ⟨rows ++ [c], fs ++ [fk], ?_, ?_, hs, by simp⟩
  · rw [List.take_succ_eq_append_getElem hk]
    exact (ha.frame hR fun x hx => hfr x (fun e => hg (e ▸ hx))).snoc (hR.frame hr fun x hx => hfr x (fun e => hgk (e ▸ hx)))
  · intro r hr
    rw [List.mem_append] at hr
    rcases hr with hr | hr
    · exact hl r hr
    · rw [List.mem_singleton.1 hr]; exact hc
theorem part_full (h : partR E sz R zc w g l k f) (hk : k = l.length) : slR E sz R w (.slice (some ⟨g, 0, none⟩) l.length l.length) l (g :: f) := by
  subst hk
  obtain ⟨rows, fs, ha, hl, hr, rfl⟩ := h
  rw [List.take_length] at ha
  rw [Nat.sub_self, List.replicate_zero, List.append_nil] at hr
  exact ⟨rows, fs, some g, ha, hl, hr, rfl⟩
end
/-! ### One element of a slice is written -/
section
variable {α : Type} {R : Rd α} {w w' : World} {cs : List (List Value)} {ds : List α} {fs : List (List Nat)}
theorem All.get' (h : All R w cs ds fs) (i : Nat) (hi : i < ds.length) {c : List Value} (hc : cs[i]? = some c) {f : List Nat} (hf : fs[i]? = some f) : R w c ds[i] f := by
  obtain ⟨c', f', h1, h2, h3⟩ := h.get i hi
  rw [hc] at h1; rw [hf] at h2
  cases h1; cases h2; exact h3
/-- The i-th element is turned, what the others lie in is kept. -/
theorem All.turn (hR : Good R) (h : All R w cs ds fs) : ∀ (i : Nat) (c : List Value) (d : α) (f : List Nat), fs[i]? = some f → R w' c d f → (∀ (k : Nat) (fk : List Nat), k ≠ i → fs[k]? = some fk → ∀ g ∈ fk, w'.heap[g]? = w.heap[g]?) → All R w' (cs.set i c) (ds.set i d) fs := by
  induction h with
  | nil => intro i c d f hf; simp at hf
  | cons h1 h2 ih =>
    intro i c d f hf hr hk
    cases i with
    | zero =>
      simp only [List.getElem?_cons_zero, Option.some.injEq] at hf
      subst hf
      refine .cons hr (h2.frame hR fun g hg => ?_)
      obtain ⟨fk, hfk, hgk⟩ := List.mem_flatten.1 hg
      obtain ⟨k, hk'⟩ := List.getElem?_of_mem hfk
      exact hk (k + 1) fk (by omega) (by simpa using hk') g hgk
    | succ i =>
      simp only [List.getElem?_cons_succ] at hf
      refine .cons (hR.frame h1 fun g hg => hk 0 _ (by omega) rfl g hg) (ih i c d f hf hr fun k fk hne hfk g hg => hk (k + 1) fk (by omega) (by simpa using hfk) g hg)
end
theorem nodup_apart {fs : List (List Nat)} (h : fs.flatten.Nodup) {i k : Nat} {f fk : List Nat} (hi : fs[i]? = some f) (hk : fs[k]? = some fk) (hne : k ≠ i) {g : Nat} (hg : g ∈ fk) : g ∉ f := by
  intro hgf
  induction fs generalizing i k with
  | nil => simp at hi
  | cons a t ih =>
    rw [List.flatten_cons, List.nodup_append] at h
    obtain ⟨h1, h2, h3⟩ := h
    cases i with
    | zero =>
      simp only [List.getElem?_cons_zero, Option.some.injEq] at hi
      subst hi
      cases k with
      | zero => exact hne rfl
      | succ k =>
        simp only [List.getElem?_cons_succ] at hk
        exact h3 g hgf g (List.mem_flatten.2 ⟨fk, List.mem_of_getElem? hk, hg⟩) rfl
    | succ i =>
      simp only [List.getElem?_cons_succ] at hi
      cases k with
      | zero =>
        simp only [List.getElem?_cons_zero, Option.some.injEq] at hk
        subst hk
        exact h3 g hg g (List.mem_flatten.2 ⟨f, List.mem_of_getElem? hi, hgf⟩) rfl
      | succ k =>
        simp only [List.getElem?_cons_succ] at hk
        exact ih h2 hi hk (by omega)
/-- A slice of which the i-th element has been taken out: its cells are c, what it leads to lies in fi. -/
def openR {α : Type} (E : TypeId) (sz : Nat) (R : Rd α) (w : World) (g n cap : Nat) (l : List α) (f : List Nat) (i : Nat) (c : List Value) (fi : List Nat) : Prop :=
  ∃ (rows : List (List Value)) (fs : List (List Nat)), Row w E sz (.slice (some ⟨g, 0, none⟩) n cap) n rows.flatten (some g) ∧ n = l.length ∧ (∀ r ∈ rows, r.length = sz) ∧ rows[i]? = some c ∧ fs[i]? = some fi ∧ f = g :: fs.flatten ∧ f.Nodup ∧ (∀ x ∈ f, x < w.heap.size) ∧
    (∀ (w1 : World) (c' : List Value) (d : α), (∀ (k : Nat) (fk : List Nat), k ≠ i → fs[k]? = some fk → ∀ x ∈ fk, w1.heap[x]? = w.heap[x]?) → R w1 c' d fi → All R w1 (rows.set i c') (l.set i d) fs)
section
variable {α : Type} {E : TypeId} {sz : Nat} {R : Rd α} {w w' : World} {l : List α} {f : List Nat} {g n cap i : Nat} {c : List Value} {fi : List Nat}
theorem slR.open {a : Option Addr} (hR : Good R) (h : slR E sz R w (.slice a n cap) l f) (hnd : f.Nodup) (hi : i < l.length) :
    ∃ g c fi, a = some ⟨g, 0, none⟩ ∧ openR E sz R w g n cap l f i c fi ∧ R w c l[i] fi := by
  have hlt := h.lt hR
  obtain ⟨rows, fs, o, ha, hl, hr, rfl⟩ := h
  obtain ⟨a', cap', hv⟩ := hr.form
  cases hv
  obtain ⟨g, rfl, rfl, hc, hfz⟩ := hr.at (by omega)
  obtain ⟨c, fi, hci, hfi, hRi⟩ := ha.get i hi
  exact ⟨g, c, fi, rfl, ⟨rows, fs, hr, rfl, hl, hci, hfi, rfl, hnd, hlt, fun w1 c' d hk hr' => ha.turn hR i c' d fi hfi hr' hk⟩, hRi⟩
theorem openR.cell (h : openR E sz R w g n cap l f i c fi) (hn : 0 < n) : ∀ j u, c[j]? = some u → w.cell? ⟨g, i * sz + j, none⟩ = some u := by
  intro j u hj
  obtain ⟨rows, fs, hr, rfl, hl, hci, _⟩ := h
  obtain ⟨g', hg, hg2, hc, _⟩ := hr.at hn
  cases hg2
  exact hc _ _ (flat_get hl i c j u hci hj)
theorem openR.frozen (h : openR E sz R w g n cap l f i c fi) (hn : 0 < n) (j : Nat) : w.frozen? ⟨g, j, none⟩ = false := by
  obtain ⟨rows, fs, hr, rfl, hl, hci, _⟩ := h
  obtain ⟨g', hg, hg2, _, hf⟩ := hr.at hn
  cases hg2
  exact hf j
theorem openR.mem (h : openR E sz R w g n cap l f i c fi) : g ∈ f ∧ g ∉ fi ∧ (∀ x ∈ fi, x ∈ f) ∧ fi.Nodup := by
  obtain ⟨rows, fs, hr, rfl, hl, hci, hfi, rfl, hnd, _⟩ := h
  have hnd2 := List.nodup_cons.1 hnd
  have hmem : ∀ x ∈ fi, x ∈ fs.flatten := fun x hx => List.mem_flatten.2 ⟨fi, List.mem_of_getElem? hfi, hx⟩
  exact ⟨by simp, fun hg => hnd2.1 (hmem g hg), fun x hx => by simp [hmem x hx], (List.pairwise_flatten.1 hnd2.2).1 fi (List.mem_of_getElem? hfi)⟩
theorem openR.store (h : openR E sz R w g n cap l f i c fi) (j : Nat) (hj : j < sz) (u : Value) : openR E sz R (w.setCell ⟨g, i * sz + j, none⟩ u) g n cap l f i (c.set j u) fi := by
  obtain ⟨rows, fs, hr, hn, hl, hci, hfi, hf, hnd, hlt, hA⟩ := h
  have hil : i < rows.length := (List.getElem?_eq_some_iff.1 hci).1
  have hs := hr.set (i * sz + j) u
  rw [flat_set hl i c j u hci hj] at hs
  refine ⟨rows.set i (c.set j u), fs, hs, hn, ?_, by simp [hil], hfi, hf, hnd, by simpa [World.setCell] using hlt, fun w1 c' d hk hr' => ?_⟩
  · intro r hrr
    rcases List.mem_or_eq_of_mem_set hrr with h1 | rfl
    · exact hl r h1
    · simpa using hl c (List.mem_of_getElem? hci)
  · rw [List.set_set]
    refine hA w1 c' d (fun k fk hne hfk x hx => (hk k fk hne hfk x hx).trans ?_) hr'
    have hg : x ≠ g := by
      rintro rfl
      rw [hf] at hnd
      exact (List.nodup_cons.1 hnd).1 (List.mem_flatten.2 ⟨fk, List.mem_of_getElem? hfk, hx⟩)
    exact Below.heap_setCell _ _ _ _ hg
theorem openR.wrote {f' : List Nat} (h : openR E sz R w g n cap l f i c fi) (hw : Wrote f' w w') (hf' : ∀ x ∈ f', x ∈ fi) : openR E sz R w' g n cap l f i c fi := by
  have hm := h.mem
  obtain ⟨rows, fs, hr, hn, hl, hci, hfi, hf, hnd, hlt, hA⟩ := h
  refine ⟨rows, fs, hr.frame fun x hx => by cases hx; exact hw.block g (hlt g hm.1) (fun hx => hm.2.1 (hf' _ hx)), hn, hl, hci, hfi, hf, hnd, fun x hx => Nat.lt_of_lt_of_le (hlt x hx) hw.size, fun w1 c' d hk hr' => ?_⟩
  refine hA w1 c' d (fun k fk hne hfk x hx => (hk k fk hne hfk x hx).trans ?_) hr'
  have hxf : x ∈ f := by rw [hf]; simp only [List.mem_cons]; exact .inr (List.mem_flatten.2 ⟨fk, List.mem_of_getElem? hfk, hx⟩)
  refine hw.block x (hlt x hxf) fun hxf' => ?_
  rw [hf] at hnd
  exact nodup_apart (List.nodup_cons.1 hnd).2 hfi hfk hne hx (hf' x hxf')
theorem openR.shut (h : openR E sz R w g n cap l f i c fi) {d : α} (hr' : R w c d fi) : slR E sz R w (.slice (some ⟨g, 0, none⟩) n cap) (l.set i d) f := by
  obtain ⟨rows, fs, hr, hn, hl, hci, hfi, hf, hnd, hlt, hA⟩ := h
  have := hA w c d (fun _ _ _ _ _ _ => rfl) hr'
  rw [set_self hci] at this
  refine ⟨rows, fs, some g, this, hl, ?_, by rw [hf]; rfl⟩
  rw [List.length_set, ← hn]
  exact hr
end

/-! ### Numbers laid into a datum one behind the other -/
def markL {α : Type} (mk : Int → α → α) (cnt : α → Nat) : Int → List α → List α
  | _, [] => []
  | k, x :: t => mk k x :: markL mk cnt (k + cnt x) t
section
variable {α : Type} {mk : Int → α → α} {cnt : α → Nat}
theorem markL_length (k : Int) (l : List α) : (markL mk cnt k l).length = l.length := by
  induction l generalizing k with
  | nil => rfl
  | cons x t ih => simp [markL, ih]
theorem markL_snoc (k : Int) (l : List α) (x : α) : markL mk cnt k (l ++ [x]) = markL mk cnt k l ++ [mk (k + ((l.map cnt).sum : Nat)) x] := by
  induction l generalizing k with
  | nil => simp [markL]
  | cons y t ih =>
    simp only [List.cons_append, markL, ih, List.map_cons, List.sum_cons]
    rw [show k + (cnt y : Int) + ((t.map cnt).sum : Nat) = k + ((cnt y + (t.map cnt).sum : Nat) : Int) from by omega]
theorem markL_step (k : Int) (l : List α) (j : Nat) (hj : j < l.length) (m : Nat) (hm : ((l.map cnt).take j).sum = m) :
    (markL mk cnt k (l.take j) ++ l.drop j).set j (mk (k + m) l[j]) = markL mk cnt k (l.take (j + 1)) ++ l.drop (j + 1) := by
  rw [List.set_append_right _ _ (by rw [markL_length]; simp; omega), markL_length]
  have e : j - (l.take j).length = 0 := by simp; omega
  rw [e, List.drop_eq_getElem_cons hj, List.set_cons_zero, List.take_succ_eq_append_getElem hj, markL_snoc, ← List.map_take, ] at *
  rw [← hm, List.map_take]; simp
theorem markL_at (k : Int) (l : List α) (j : Nat) (hj : j < l.length) (h : j < (markL mk cnt k (l.take j) ++ l.drop j).length) : (markL mk cnt k (l.take j) ++ l.drop j)[j] = l[j] := by
  rw [List.getElem_append_right (by rw [markL_length]; simp; omega)]
  simp only [markL_length, List.length_take]
  have e : j - min j l.length = 0 := by omega
  simp [e]
theorem markL_get (k : Int) (l : List α) (j : Nat) (hj : j < l.length) (m : Nat) (hm : ((l.map cnt).take j).sum = m) (h : j < (markL mk cnt k l).length) : (markL mk cnt k l)[j] = mk (k + m) l[j] := by
  induction l generalizing k j m with
  | nil => simp at hj
  | cons x t ih =>
    cases j with
    | zero => simp at hm; subst hm; simp [markL]
    | succ j =>
      simp only [List.map_cons, List.take_succ_cons, List.sum_cons] at hm
      simp only [markL, List.getElem_cons_succ]
      rw [ih (k + cnt x) j (by simpa using hj) ((t.map cnt).take j).sum rfl]
      rw [show k + (cnt x : Int) + (((t.map cnt).take j).sum : Nat) = k + (m : Int) from by omega]
end
end Go.Proofs.YtpdmdfkcaabnaaaGreatDoor
/- The data of the program in plain terms, and how each reads off memory: '..R', '..s': what the program's own functions make, with the blocks in which it lies; '..W': as it came in. No condition. -/
namespace Go.Proofs.YtpdmdfkcaabnaaaGreatDoor
open Go.RowKit
set_option linter.unusedVariables false
set_option linter.unusedSimpArgs false

/-! ### As it came in: a slice at any place of its block -/
abbrev RdW (α : Type) := World → List Value → α → Prop
structure GoodW {α : Type} (R : RdW α) : Prop where
  keep : ∀ {w w' : World} {cs : List Value} {d : α}, R w cs d → Below w.heap.size w w' → R w' cs d
def slW {α : Type} (sz : Nat) (R : RdW α) (w : World) (v : Value) (l : List α) : Prop :=
  ∃ a cap, v = .slice a l.length cap ∧ l.length ≤ maxLen ∧ ∀ i (hi : i < l.length), ∃ b off c, a = some ⟨b, off, none⟩ ∧ c.length = sz ∧ (∀ j u, c[j]? = some u → w.cell? ⟨b, off + i * sz + j, none⟩ = some u) ∧ R w c l[i]
theorem cell_below {w w' : World} {a : Addr} {u : Value} (h : w.cell? a = some u) (hb : Below w.heap.size w w') : w'.cell? a = some u :=
  (World.cell?_of_block (hb.block a.block (World.block_lt_of_cell? w a h))).trans h
theorem slW.below {α : Type} {sz : Nat} {R : RdW α} (hR : GoodW R) {w w' : World} {v : Value} {l : List α} (h : slW sz R w v l) (hb : Below w.heap.size w w') : slW sz R w' v l := by
  obtain ⟨a, cap, hv, hm, h⟩ := h
  refine ⟨a, cap, hv, hm, fun i hi => ?_⟩
  obtain ⟨b, off, c, ha, hl, hc, hr⟩ := h i hi
  exact ⟨b, off, c, ha, hl, fun j u hj => cell_below (hc j u hj) hb, hR.keep hr hb⟩
theorem slW.form {α : Type} {sz : Nat} {R : RdW α} {w : World} {v : Value} {l : List α} (h : slW sz R w v l) : ∃ a cap, v = .slice a l.length cap := by
  obtain ⟨a, cap, hv, _⟩ := h; exact ⟨a, cap, hv⟩
theorem slW.le_max {α : Type} {sz : Nat} {R : RdW α} {w : World} {v : Value} {l : List α} (h : slW sz R w v l) : l.length ≤ 9223372036854775807 := by
  obtain ⟨a, cap, hv, hm, _⟩ := h; exact hm
theorem slW.at {α : Type} {sz : Nat} {R : RdW α} {w : World} {a : Option Addr} {n cap : Nat} {l : List α} (h : slW sz R w (.slice a n cap) l) (i : Nat) (hi : i < l.length) :
    ∃ b off c, a = some ⟨b, off, none⟩ ∧ c.length = sz ∧ (∀ j u, c[j]? = some u → w.cell? ⟨b, off + i * sz + j, none⟩ = some u) ∧ R w c l[i] := by
  obtain ⟨a', cap', hv, hm, h⟩ := h
  cases hv
  exact h i hi
def intW : RdW Int := fun _ cs d => cs = [.int .i64 d] ∧ I64 d
theorem goodW_int : GoodW intW := ⟨fun h _ => h⟩
def elW {α : Type} (sz : Nat) (R : RdW α) : RdW (List α) := fun w cs l => ∃ v, cs = [v] ∧ slW sz R w v l
theorem goodW_el {α : Type} {sz : Nat} {R : RdW α} (hR : GoodW R) : GoodW (elW sz R) := ⟨fun ⟨v, hv, h⟩ hb => ⟨v, hv, h.below hR hb⟩⟩

/-- A slice value that reads as a list of Int. -/
def ints (w : World) (v : Value) (l : List Int) (f : List Nat) : Prop := slR 3 1 intR w v l f
def intsR : Rd (List Int) := fun w cs l f => ∃ v, cs = [v] ∧ ints w v l f
theorem good_ints : Good intsR := good_el good_int
def intsV (w : World) (v : Value) (l : List Int) : Prop := slW 1 intW w v l
def intsW : RdW (List Int) := fun w cs l => ∃ v, cs = [v] ∧ intsV w v l
theorem goodW_ints : GoodW intsW := goodW_el goodW_int
section
variable {w w' : World} {v : Value} {l : List Int} {f : List Nat}
theorem ints.below' (h : ints w v l f) (hb : Below w.heap.size w w') : ints w' v l f := slR.below' good_int h hb
theorem ints.below {B : Nat} (h : ints w v l f) (hb : Below B w w') (hf : ∀ g ∈ f, g < B) : ints w' v l f := slR.below good_int h hb hf
theorem ints.frame (h : ints w v l f) (hf : ∀ g ∈ f, w'.heap[g]? = w.heap[g]?) : ints w' v l f := slR.frame good_int h hf
theorem ints.far (h : ints w v l f) {p : Addr} (hp : p.block ∉ f) (u : Value) : ints (w.setCell p u) v l f := slR.far good_int h hp u
theorem ints.lt (h : ints w v l f) : ∀ g ∈ f, g < w.heap.size := slR.lt good_int h
theorem intsV.below' (h : intsV w v l) (hb : Below w.heap.size w w') : intsV w' v l := slW.below goodW_int h hb
end

structure FactD where
  rel : Int
  vals : List Int
structure AtomD where
  rel : Int
  terms : List Int
structure BindD where
  vars : List Int
  vals : List Int
structure AccD where
  meth : Int
  vals : List Int
structure StepD where
  atom : Int
  meth : Int
structure MethD where
  rel : Int
  inputs : List Int
  limit : Int
  cost : Int
  quota : Int
structure QueryD where
  head : List Int
  atoms : List AtomD
def factR : Rd FactD := fun w cs d f => ∃ vvals, cs = [.int .i64 d.rel, vvals] ∧ I64 d.rel ∧ ints w vvals d.vals f
def factW : RdW FactD := fun w cs d => ∃ vvals, cs = [.int .i64 d.rel, vvals] ∧ I64 d.rel ∧ intsV w vvals d.vals
theorem good_fact : Good factR := by
  constructor
  · intro w w' cs d f h hfr
    obtain ⟨vvals, hc, irel, hvals⟩ := h
    exact ⟨vvals, hc, irel, hvals.frame fun g hg => hfr g (by simp [hg])⟩
  · intro w cs d f h g hg
    obtain ⟨vvals, hc, irel, hvals⟩ := h
    exact hvals.lt g hg
theorem goodW_fact : GoodW factW := by
  refine ⟨fun {w w'} {cs} {d} h hb => ?_⟩
  obtain ⟨vvals, hc, irel, hvals⟩ := h
  exact ⟨vvals, hc, irel, hvals.below' hb⟩

/-- A slice value that reads as a list of FactD. -/
def facts (w : World) (v : Value) (l : List FactD) (f : List Nat) : Prop := slR 79 2 factR w v l f
def factsR : Rd (List FactD) := fun w cs l f => ∃ v, cs = [v] ∧ facts w v l f
theorem good_facts : Good factsR := good_el good_fact
def factsV (w : World) (v : Value) (l : List FactD) : Prop := slW 2 factW w v l
def factsW : RdW (List FactD) := fun w cs l => ∃ v, cs = [v] ∧ factsV w v l
theorem goodW_facts : GoodW factsW := goodW_el goodW_fact
section
variable {w w' : World} {v : Value} {l : List FactD} {f : List Nat}
theorem facts.below' (h : facts w v l f) (hb : Below w.heap.size w w') : facts w' v l f := slR.below' good_fact h hb
theorem facts.below {B : Nat} (h : facts w v l f) (hb : Below B w w') (hf : ∀ g ∈ f, g < B) : facts w' v l f := slR.below good_fact h hb hf
theorem facts.frame (h : facts w v l f) (hf : ∀ g ∈ f, w'.heap[g]? = w.heap[g]?) : facts w' v l f := slR.frame good_fact h hf
theorem facts.far (h : facts w v l f) {p : Addr} (hp : p.block ∉ f) (u : Value) : facts (w.setCell p u) v l f := slR.far good_fact h hp u
theorem facts.lt (h : facts w v l f) : ∀ g ∈ f, g < w.heap.size := slR.lt good_fact h
theorem factsV.below' (h : factsV w v l) (hb : Below w.heap.size w w') : factsV w' v l := slW.below goodW_fact h hb
end

def atomR : Rd AtomD := fun w cs d f => ∃ vterms, cs = [.int .i64 d.rel, vterms] ∧ I64 d.rel ∧ ints w vterms d.terms f
def atomW : RdW AtomD := fun w cs d => ∃ vterms, cs = [.int .i64 d.rel, vterms] ∧ I64 d.rel ∧ intsV w vterms d.terms
theorem good_atom : Good atomR := by
  constructor
  · intro w w' cs d f h hfr
    obtain ⟨vterms, hc, irel, hterms⟩ := h
    exact ⟨vterms, hc, irel, hterms.frame fun g hg => hfr g (by simp [hg])⟩
  · intro w cs d f h g hg
    obtain ⟨vterms, hc, irel, hterms⟩ := h
    exact hterms.lt g hg
theorem goodW_atom : GoodW atomW := by
  refine ⟨fun {w w'} {cs} {d} h hb => ?_⟩
  obtain ⟨vterms, hc, irel, hterms⟩ := h
  exact ⟨vterms, hc, irel, hterms.below' hb⟩

/-- A slice value that reads as a list of AtomD. -/
def atoms (w : World) (v : Value) (l : List AtomD) (f : List Nat) : Prop := slR 69 2 atomR w v l f
def atomsR : Rd (List AtomD) := fun w cs l f => ∃ v, cs = [v] ∧ atoms w v l f
theorem good_atoms : Good atomsR := good_el good_atom
def atomsV (w : World) (v : Value) (l : List AtomD) : Prop := slW 2 atomW w v l
def atomsW : RdW (List AtomD) := fun w cs l => ∃ v, cs = [v] ∧ atomsV w v l
theorem goodW_atoms : GoodW atomsW := goodW_el goodW_atom
section
variable {w w' : World} {v : Value} {l : List AtomD} {f : List Nat}
theorem atoms.below' (h : atoms w v l f) (hb : Below w.heap.size w w') : atoms w' v l f := slR.below' good_atom h hb
theorem atoms.below {B : Nat} (h : atoms w v l f) (hb : Below B w w') (hf : ∀ g ∈ f, g < B) : atoms w' v l f := slR.below good_atom h hb hf
theorem atoms.frame (h : atoms w v l f) (hf : ∀ g ∈ f, w'.heap[g]? = w.heap[g]?) : atoms w' v l f := slR.frame good_atom h hf
theorem atoms.far (h : atoms w v l f) {p : Addr} (hp : p.block ∉ f) (u : Value) : atoms (w.setCell p u) v l f := slR.far good_atom h hp u
theorem atoms.lt (h : atoms w v l f) : ∀ g ∈ f, g < w.heap.size := slR.lt good_atom h
theorem atomsV.below' (h : atomsV w v l) (hb : Below w.heap.size w w') : atomsV w' v l := slW.below goodW_atom h hb
end

def accR : Rd AccD := fun w cs d f => ∃ vvals, cs = [.int .i64 d.meth, vvals] ∧ I64 d.meth ∧ ints w vvals d.vals f
def accW : RdW AccD := fun w cs d => ∃ vvals, cs = [.int .i64 d.meth, vvals] ∧ I64 d.meth ∧ intsV w vvals d.vals
theorem good_acc : Good accR := by
  constructor
  · intro w w' cs d f h hfr
    obtain ⟨vvals, hc, imeth, hvals⟩ := h
    exact ⟨vvals, hc, imeth, hvals.frame fun g hg => hfr g (by simp [hg])⟩
  · intro w cs d f h g hg
    obtain ⟨vvals, hc, imeth, hvals⟩ := h
    exact hvals.lt g hg
theorem goodW_acc : GoodW accW := by
  refine ⟨fun {w w'} {cs} {d} h hb => ?_⟩
  obtain ⟨vvals, hc, imeth, hvals⟩ := h
  exact ⟨vvals, hc, imeth, hvals.below' hb⟩

/-- A slice value that reads as a list of AccD. -/
def accs (w : World) (v : Value) (l : List AccD) (f : List Nat) : Prop := slR 28 2 accR w v l f
def accsR : Rd (List AccD) := fun w cs l f => ∃ v, cs = [v] ∧ accs w v l f
theorem good_accs : Good accsR := good_el good_acc
def accsV (w : World) (v : Value) (l : List AccD) : Prop := slW 2 accW w v l
def accsW : RdW (List AccD) := fun w cs l => ∃ v, cs = [v] ∧ accsV w v l
theorem goodW_accs : GoodW accsW := goodW_el goodW_acc
section
variable {w w' : World} {v : Value} {l : List AccD} {f : List Nat}
theorem accs.below' (h : accs w v l f) (hb : Below w.heap.size w w') : accs w' v l f := slR.below' good_acc h hb
theorem accs.below {B : Nat} (h : accs w v l f) (hb : Below B w w') (hf : ∀ g ∈ f, g < B) : accs w' v l f := slR.below good_acc h hb hf
theorem accs.frame (h : accs w v l f) (hf : ∀ g ∈ f, w'.heap[g]? = w.heap[g]?) : accs w' v l f := slR.frame good_acc h hf
theorem accs.far (h : accs w v l f) {p : Addr} (hp : p.block ∉ f) (u : Value) : accs (w.setCell p u) v l f := slR.far good_acc h hp u
theorem accs.lt (h : accs w v l f) : ∀ g ∈ f, g < w.heap.size := slR.lt good_acc h
theorem accsV.below' (h : accsV w v l) (hb : Below w.heap.size w w') : accsV w' v l := slW.below goodW_acc h hb
end

def methR : Rd MethD := fun w cs d f => ∃ vinputs, cs = [.int .i64 d.rel, vinputs, .int .i64 d.limit, .int .i64 d.cost, .int .i64 d.quota] ∧ I64 d.rel ∧ I64 d.limit ∧ I64 d.cost ∧ I64 d.quota ∧ ints w vinputs d.inputs f
def methW : RdW MethD := fun w cs d => ∃ vinputs, cs = [.int .i64 d.rel, vinputs, .int .i64 d.limit, .int .i64 d.cost, .int .i64 d.quota] ∧ I64 d.rel ∧ I64 d.limit ∧ I64 d.cost ∧ I64 d.quota ∧ intsV w vinputs d.inputs
theorem good_meth : Good methR := by
  constructor
  · intro w w' cs d f h hfr
    obtain ⟨vinputs, hc, irel, ilimit, icost, iquota, hinputs⟩ := h
    exact ⟨vinputs, hc, irel, ilimit, icost, iquota, hinputs.frame fun g hg => hfr g (by simp [hg])⟩
  · intro w cs d f h g hg
    obtain ⟨vinputs, hc, irel, ilimit, icost, iquota, hinputs⟩ := h
    exact hinputs.lt g hg
theorem goodW_meth : GoodW methW := by
  refine ⟨fun {w w'} {cs} {d} h hb => ?_⟩
  obtain ⟨vinputs, hc, irel, ilimit, icost, iquota, hinputs⟩ := h
  exact ⟨vinputs, hc, irel, ilimit, icost, iquota, hinputs.below' hb⟩

/-- A slice value that reads as a list of MethD. -/
def meths (w : World) (v : Value) (l : List MethD) (f : List Nat) : Prop := slR 38 5 methR w v l f
def methsR : Rd (List MethD) := fun w cs l f => ∃ v, cs = [v] ∧ meths w v l f
theorem good_meths : Good methsR := good_el good_meth
def methsV (w : World) (v : Value) (l : List MethD) : Prop := slW 5 methW w v l
def methsW : RdW (List MethD) := fun w cs l => ∃ v, cs = [v] ∧ methsV w v l
theorem goodW_meths : GoodW methsW := goodW_el goodW_meth
section
variable {w w' : World} {v : Value} {l : List MethD} {f : List Nat}
theorem meths.below' (h : meths w v l f) (hb : Below w.heap.size w w') : meths w' v l f := slR.below' good_meth h hb
theorem meths.below {B : Nat} (h : meths w v l f) (hb : Below B w w') (hf : ∀ g ∈ f, g < B) : meths w' v l f := slR.below good_meth h hb hf
theorem meths.frame (h : meths w v l f) (hf : ∀ g ∈ f, w'.heap[g]? = w.heap[g]?) : meths w' v l f := slR.frame good_meth h hf
theorem meths.far (h : meths w v l f) {p : Addr} (hp : p.block ∉ f) (u : Value) : meths (w.setCell p u) v l f := slR.far good_meth h hp u
theorem meths.lt (h : meths w v l f) : ∀ g ∈ f, g < w.heap.size := slR.lt good_meth h
theorem methsV.below' (h : methsV w v l) (hb : Below w.heap.size w w') : methsV w' v l := slW.below goodW_meth h hb
end

def queryR : Rd QueryD := fun w cs d f => ∃ vhead vatoms fhead fatoms, cs = [vhead, vatoms] ∧ f = fhead ++ fatoms ∧ ints w vhead d.head fhead ∧ atoms w vatoms d.atoms fatoms
def queryW : RdW QueryD := fun w cs d => ∃ vhead vatoms, cs = [vhead, vatoms] ∧ intsV w vhead d.head ∧ atomsV w vatoms d.atoms
theorem good_query : Good queryR := by
  constructor
  · intro w w' cs d f h hfr
    obtain ⟨vhead, vatoms, fhead, fatoms, hc, hf, hhead, hatoms⟩ := h
    exact ⟨vhead, vatoms, fhead, fatoms, hc, hf, hhead.frame fun g hg => hfr g (by simp [hf, hg]), hatoms.frame fun g hg => hfr g (by simp [hf, hg])⟩
  · intro w cs d f h g hg
    obtain ⟨vhead, vatoms, fhead, fatoms, hc, hf, hhead, hatoms⟩ := h
    rw [hf, List.mem_append] at hg
    exact hg.elim (hhead.lt g) (hatoms.lt g)
theorem goodW_query : GoodW queryW := by
  refine ⟨fun {w w'} {cs} {d} h hb => ?_⟩
  obtain ⟨vhead, vatoms, hc, hhead, hatoms⟩ := h
  exact ⟨vhead, vatoms, hc, hhead.below' hb, hatoms.below' hb⟩

end Go.Proofs.YtpdmdfkcaabnaaaGreatDoor
/- The contracts of the small functions on integers: is a number in a range, a variable, a term. No condition. -/
namespace Go.Proofs.YtpdmdfkcaabnaaaGreatDoor
open Go.RowKit
set_option linter.unusedVariables false
set_option linter.unusedSimpArgs false

/-- Is a number in a range. -/
def inR (x lo hi : Int) : Bool := decide (lo ≤ x) && decide (x ≤ hi)
theorem inR_true {x lo hi : Int} (h : inR x lo hi = true) : lo ≤ x ∧ x ≤ hi := by simpa [inR] using h
theorem inR_false {x lo hi : Int} (h : inR x lo hi = false) : lo ≤ x → hi < x := by simpa [inR] using h
theorem ret_bool {a b : Bool} (h : a = b) : Ending.returned (.bool a) = .returned (.bool b) := by rw [h]
theorem ret_int {k : IntKind} {a b : Int} (h : a = b) : Ending.returned (.int k a) = .returned (.int k b) := by rw [h]

theorem ret_str {a b : ByteArray} (h : a = b) : Ending.returned (.string a) = .returned (.string b) := by rw [h]

theorem f86_any (x lo hi : Int) (w : World) :
    Calls Tryz.prog 86 #[.int .i64 x, .int .i64 lo, .int .i64 hi] w fun e w' => e = .returned (.bool (inR x lo hi)) ∧ w = w' := by
  by_cases h1 : lo ≤ x <;> by_cases h2 : x ≤ hi <;>
  · go_enter Tryz.func86, Tryz.ntmps86
    go_wp2
    go_ret
    exact ⟨ret_bool (by simp [inR]; try omega), rfl⟩
theorem f107_any (x lo hi : Int) (w : World) :
    Calls Tryz.prog 107 #[.int .i64 x, .int .i64 lo, .int .i64 hi] w fun e w' => e = .returned (.bool (inR x lo hi)) ∧ w = w' := by
  by_cases h1 : lo ≤ x <;> by_cases h2 : x ≤ hi <;>
  · go_enter Tryz.func107, Tryz.ntmps107
    go_wp2
    go_ret
    exact ⟨ret_bool (by simp [inR]; try omega), rfl⟩

/-- Is a number a value. -/
def isVal (x : Int) : Bool := inR x 0 9
/-- Is a number a variable. -/
def isVarB (x : Int) : Bool := inR x 10 17
/-- Is a number a term. -/
def isTermB (x : Int) : Bool := isVal x || isVarB x
theorem f126_any (x : Int) (w : World) :
    Calls Tryz.prog 126 #[.int .i64 x] w fun e w' => e = .returned (.bool (isVal x)) ∧ w = w' := by
  go_enter Tryz.func126, Tryz.ntmps126
  go_wp2_with (go_at_call 107; refine (f107_any _ _ _ _).mono ?_; rintro e w' ⟨rfl, rfl⟩)
  go_ret
  exact ⟨rfl, rfl⟩
theorem f49_any (x : Int) (w : World) :
    Calls Tryz.prog 49 #[.int .i64 x] w fun e w' => e = .returned (.bool (isVarB x)) ∧ w = w' := by
  go_enter Tryz.func49, Tryz.ntmps49
  go_wp2_with (go_at_call 107; refine (f107_any _ _ _ _).mono ?_; rintro e w' ⟨rfl, rfl⟩)
  go_ret
  exact ⟨rfl, rfl⟩
theorem f127_any (x : Int) (w : World) :
    Calls Tryz.prog 127 #[.int .i64 x] w fun e w' => e = .returned (.bool (isVarB x)) ∧ w = w' := by
  go_enter Tryz.func127, Tryz.ntmps127
  go_wp2_with (go_at_call 86; refine (f86_any _ _ _ _).mono ?_; rintro e w' ⟨rfl, rfl⟩)
  go_ret
  exact ⟨rfl, rfl⟩
theorem f47_any (x : Int) (w : World) :
    Calls Tryz.prog 47 #[.int .i64 x] w fun e w' => e = .returned (.bool (isTermB x)) ∧ w = w' := by
  go_enter Tryz.func47, Tryz.ntmps47
  go_wp2_with (first
    | (go_at_call 126; refine (f126_any _ _).mono ?_; rintro e w' ⟨rfl, rfl⟩)
    | (go_at_call 49; refine (f49_any _ _).mono ?_; rintro e w' ⟨rfl, rfl⟩))
  all_goals
    go_ret
    exact ⟨ret_bool (by simp [isTermB, *]), rfl⟩
theorem f135_any (x : Int) (w : World) :
    Calls Tryz.prog 135 #[.int .i64 x] w fun e w' => e = .returned (.bool (isTermB x)) ∧ w = w' := by
  go_enter Tryz.func135, Tryz.ntmps135
  go_wp2_with (first
    | (go_at_call 86; refine (f86_any _ _ _ _).mono ?_; rintro e w' ⟨rfl, rfl⟩)
    | (go_at_call 127; refine (f127_any _ _).mono ?_; rintro e w' ⟨rfl, rfl⟩))
  all_goals
    go_ret
    exact ⟨ret_bool (by simp [isTermB, isVal, *]), rfl⟩
end Go.Proofs.YtpdmdfkcaabnaaaGreatDoor
/- The laws' helpers at []int: size, copy, comparison, marks. -/
namespace Go.Proofs.YtpdmdfkcaabnaaaGreatDoor
open Go.RowKit
set_option linter.unusedVariables false
set_option linter.unusedSimpArgs false

theorem infoInt : (Tryz.prog.info? 3).map (fun i => (i.zero, i.size, i.bytes)) = some (some (.int .i64 0), 1, 8) := by kernel_rfl
theorem slInt : SlT Tryz.prog 24 3 (.int .i64 0) 1 8 := slT_of Tryz.underlying24 infoInt rfl (by decide)

/-- The cells of numbers. -/
def icells (l : List Int) : List Value := l.map (Value.int .i64)
theorem icells_rows (l : List Int) : (l.map fun n => [Value.int .i64 n]).flatten = icells l := by
  induction l with
  | nil => rfl
  | cons a t ih => simp only [List.map_cons, List.flatten_cons, ih]; rfl
theorem all_ints (w : World) (l : List Int) (hl : ∀ x ∈ l, I64 x) : All intR w (l.map fun n => [Value.int .i64 n]) l (l.map fun _ => []) := by
  induction l with
  | nil => exact .nil
  | cons a t ih => exact .cons ⟨rfl, rfl, hl a (by simp)⟩ (ih fun x hx => hl x (by simp [hx]))
theorem flat_nils (l : List Int) : (l.map fun _ => ([] : List Nat)).flatten = [] := by
  induction l with
  | nil => rfl
  | cons a t ih => simp
/-- A slice of ints is its row. -/
theorem ints_of_row {w : World} {v : Value} {l : List Int} {o : Option Nat} (h : Row w 3 1 v l.length (icells l) o) (hl : ∀ x ∈ l, I64 x) : ints w v l o.toList :=
  ⟨_, _, o, all_ints w l hl, by simp, by rw [icells_rows]; exact h, by rw [flat_nils]; simp⟩
theorem all_ints_inv {w : World} {rows : List (List Value)} {l : List Int} {fs : List (List Nat)} (h : All intR w rows l fs) : rows.flatten = icells l ∧ fs.flatten = [] ∧ ∀ x ∈ l, I64 x := by
  induction h with
  | nil => exact ⟨rfl, rfl, by simp⟩
  | cons h1 _ ih =>
    obtain ⟨rfl, rfl, h3⟩ := h1
    refine ⟨?_, ?_, ?_⟩
    · simp only [List.flatten_cons, ih.1]; rfl
    · simp only [List.flatten_cons, ih.2.1]; rfl
    · intro x hx
      rcases List.mem_cons.1 hx with rfl | hx
      · exact h3
      · exact ih.2.2 x hx
theorem row_of_ints {w : World} {v : Value} {l : List Int} {f : List Nat} (h : ints w v l f) : ∃ o, Row w 3 1 v l.length (icells l) o ∧ f = o.toList ∧ ∀ x ∈ l, I64 x := by
  obtain ⟨rows, fs, o, ha, hl, hr, rfl⟩ := h
  obtain ⟨h1, h2, h3⟩ := all_ints_inv ha
  rw [h1] at hr
  exact ⟨o, hr, by rw [h2]; simp, h3⟩
/-- The i-th number of a slice of ints. -/
theorem ints.get {w : World} {a : Option Addr} {n cap : Nat} {l : List Int} {f : List Nat} (h : ints w (.slice a n cap) l f) (i : Nat) (hi : i < l.length) :
    ∃ g, a = some ⟨g, 0, none⟩ ∧ w.cell? ⟨g, i, none⟩ = some (.int .i64 l[i]) ∧ w.frozen? ⟨g, i, none⟩ = false ∧ I64 l[i] ∧ f = [g] := by
  obtain ⟨o, hr, rfl, hw⟩ := row_of_ints h
  obtain ⟨a', cap', hv⟩ := hr.form
  cases hv
  obtain ⟨g, rfl, rfl, hc, hf⟩ := hr.at (by omega)
  exact ⟨g, rfl, hc i _ (by simp [icells, List.getElem?_eq_getElem hi]), hf i, hw _ (List.getElem_mem hi), rfl⟩
theorem intsV.get {w : World} {a : Option Addr} {n cap : Nat} {l : List Int} (h : intsV w (.slice a n cap) l) (i : Nat) (hi : i < l.length) :
    ∃ b off, a = some ⟨b, off, none⟩ ∧ w.cell? ⟨b, off + i, none⟩ = some (.int .i64 l[i]) ∧ I64 l[i] := by
  obtain ⟨b, off, c, ha, hl, hc, rfl, hw⟩ := slW.at h i hi
  exact ⟨b, off, ha, by simpa using hc 0 _ rfl, hw⟩

theorem intsV.wf {w : World} {v : Value} {l : List Int} (h : intsV w v l) : ∀ x ∈ l, I64 x := by
  intro x hx
  obtain ⟨a, cap, rfl⟩ := slW.form h
  obtain ⟨i, hi, rfl⟩ := List.mem_iff_getElem.1 hx
  obtain ⟨_, _, _, _, h3⟩ := h.get i hi
  exact h3
/-- The cells of the first k numbers, the rest still zero. -/
def partInts (l : List Int) (k : Nat) : List Value := icells (l.take k) ++ List.replicate (l.length - k) (Value.int .i64 0)
theorem partInts_zero (l : List Int) : (madeCells (Value.cells (Value.int .i64 0)) (l.length * 1)).toList = partInts l 0 := by
  show (madeCells #[Value.int .i64 0] (l.length * 1)).toList = _
  rw [toList_madeCells_one]; simp [partInts, icells]
theorem partInts_length (l : List Int) (k : Nat) (hk : k ≤ l.length) : (partInts l k).length = l.length := by simp [partInts, icells]; omega
theorem partInts_at (l : List Int) (k : Nat) (hk : k < l.length) : (partInts l k)[k]? = some (Value.int .i64 0) := by
  unfold partInts
  rw [List.getElem?_append_right (by simp [icells]; omega)]
  have : k - (icells (l.take k)).length = 0 := by simp [icells]; omega
  rw [this, List.getElem?_replicate, if_pos (by omega)]
theorem partInts_set (l : List Int) (k : Nat) (hk : k < l.length) : (partInts l k).set k (Value.int .i64 l[k]) = partInts l (k + 1) := by
  unfold partInts
  rw [List.set_append_right _ _ (by simp [icells]; omega)]
  have h0 : k - (icells (l.take k)).length = 0 := by simp [icells]; omega
  rw [h0, List.take_succ_eq_append_getElem hk]
  have : l.length - k = (l.length - (k + 1)) + 1 := by omega
  rw [this, List.replicate_succ, List.set_cons_zero]
  simp only [icells, List.map_append, List.map_cons, List.map_nil, List.append_assoc, List.cons_append, List.nil_append]
theorem partInts_full (l : List Int) (k : Nat) (hk : k = l.length) : partInts l k = icells l := by
  subst hk; simp [partInts]

theorem take_eq_step {α : Type} {l m : List α} {k : Nat} (hl : k < l.length) (hm : k < m.length) (h : l.take k = m.take k) (he : l[k] = m[k]) : l.take (k + 1) = m.take (k + 1) := by
  rw [List.take_succ_eq_append_getElem hl, List.take_succ_eq_append_getElem hm, h, he]
theorem eq_of_take {α : Type} {l m : List α} (hlen : l.length = m.length) (h : l.take l.length = m.take l.length) : l = m := by
  rw [List.take_length, hlen, List.take_length] at h; exact h
theorem ne_of_get {α : Type} {l m : List α} {k : Nat} (hl : k < l.length) (hm : k < m.length) (he : l[k] ≠ m[k]) : l ≠ m := by
  rintro rfl; exact he rfl
/-- What is left of a budget. -/
def left (n : Nat) (b : Int) : Int := if b - n < 0 then -1 else b - n
/-- k0, k0 + 1, .. -/
def marks (k0 : Int) (n : Nat) : List Int := (List.range n).map fun (i : Nat) => k0 + (i : Int)
theorem marks_length (k0 : Int) (n : Nat) : (marks k0 n).length = n := by simp [marks]
theorem marks_succ (k0 : Int) (n : Nat) : marks k0 (n + 1) = marks k0 n ++ [k0 + (n : Int)] := by simp [marks, List.range_succ]
theorem marks_get (k0 : Int) (n i : Nat) (hi : i < (marks k0 n).length) : (marks k0 n)[i] = k0 + (i : Int) := by simp [marks]
theorem marks_step (k0 : Int) (l : List Int) (j : Nat) (hj : j < l.length) : (marks k0 j ++ l.drop j).set j (k0 + (j : Int)) = marks k0 (j + 1) ++ l.drop (j + 1) := by
  rw [List.set_append_right _ _ (by rw [marks_length]; omega), marks_length, Nat.sub_self, List.drop_eq_getElem_cons hj, List.set_cons_zero, marks_succ]
  simp
theorem ints.store {w : World} {a : Option Addr} {n cap : Nat} {l : List Int} {f : List Nat} {g : Nat} (h : ints w (.slice a n cap) l f) (j : Nat) (hj : j < l.length) (hg : f = [g]) (u : Int) (hu : I64 u) :
    ints (w.setCell ⟨g, j, none⟩ (.int .i64 u)) (.slice a n cap) (l.set j u) f := by
  obtain ⟨o, hr, rfl, hw⟩ := row_of_ints h
  have ho : o = some g := by cases o <;> simp_all
  subst ho
  have hs := hr.set j (.int .i64 u)
  have e : (icells l).set j (.int .i64 u) = icells (l.set j u) := by simp [icells, List.map_set]
  rw [e] at hs
  have hs' : Row (w.setCell ⟨g, j, none⟩ (.int .i64 u)) 3 1 (.slice a n cap) (l.set j u).length (icells (l.set j u)) (some g) := by rw [List.length_set]; exact hs
  refine ints_of_row hs' fun x hx => ?_
  rcases List.mem_or_eq_of_mem_set hx with h1 | rfl
  · exact hw x h1
  · exact hu
end Go.Proofs.YtpdmdfkcaabnaaaGreatDoor
/- Small lemmas for the laws' helpers. -/
namespace Go.Proofs.YtpdmdfkcaabnaaaGreatDoor
open Go.RowKit
set_option linter.unusedVariables false
set_option linter.unusedSimpArgs false
theorem bcell {W w1 : World} (hb : Below W.heap.size W w1) : (∀ b o, b < W.heap.size → w1.cell? ⟨b, o, none⟩ = W.cell? ⟨b, o, none⟩) ∧ (∀ b o, b < W.heap.size → w1.frozen? ⟨b, o, none⟩ = W.frozen? ⟨b, o, none⟩) :=
  ⟨fun b o h => hb.cell (p := ⟨b, o, none⟩) h, fun b o h => hb.frozen (p := ⟨b, o, none⟩) h⟩
/-- What is left of a budget: smaller lemmas. -/
theorem left_cases (n : Nat) (b : Int) (hb : 0 ≤ b) : (left n b < 0 ∧ left n b = -1) ∨ (0 ≤ left n b ∧ left n b = b - n) := by
  unfold left; by_cases h : b - n < 0
  · rw [if_pos h]; exact .inl ⟨by omega, rfl⟩
  · rw [if_neg h]; exact .inr ⟨by omega, rfl⟩
theorem left_sign (n : Nat) (b : Int) : -1 ≤ left n b := by unfold left; split <;> omega
theorem left_le (n : Nat) (b : Int) (hb : 0 ≤ b) : left n b ≤ b := by unfold left; split <;> omega
theorem left_over (n m : Nat) (b : Int) (h : left n b < 0) (h1 : left n b = -1) : left (n + m) b = -1 := by
  unfold left at *; split at h
  · rw [if_pos (by omega)]
  · omega
theorem left_add (n m : Nat) (b : Int) (h : 0 ≤ left n b) : left (n + m) b = left m (left n b) := by
  unfold left at *
  by_cases h1 : b - n < 0
  · rw [if_pos h1] at h; omega
  · rw [if_neg h1]
    by_cases h2 : b - (n + m : Nat) < 0
    · rw [if_pos h2, if_pos (by omega)]
    · rw [if_neg h2, if_neg (by omega)]; omega
theorem left_fits (n : Nat) (b : Int) (h : 0 ≤ left n b) : (n : Int) ≤ b ∧ left n b = b - n := by
  unfold left at *; split at h
  · omega
  · rename_i h1; exact ⟨by omega, by rw [if_neg h1]⟩
theorem left_neg {n : Nat} {b : Int} (h : b - n < 0) : left n b = -1 := by unfold left; rw [if_pos h]
theorem left_sub (n : Nat) (b : Int) (hb : 0 ≤ b) : left n b = -1 ∧ b - n < 0 ∨ left n b = b - n ∧ 0 ≤ b - n := by
  unfold left; by_cases h : b - n < 0
  · rw [if_pos h]; exact .inl ⟨rfl, h⟩
  · rw [if_neg h]; exact .inr ⟨rfl, by omega⟩
theorem left_le_iff {n : Nat} {b : Int} (h : left n b < 0) (h1 : left n b = -1) : b - n < 0 := by
  unfold left at h; split at h <;> omega
theorem sum_take_step (l : List Nat) (k : Nat) (hk : k < l.length) (m : Nat) (h : (l.take k).sum = m) : (l.take (k + 1)).sum = m + l[k] := by
  rw [List.take_succ_eq_append_getElem hk, List.sum_append, h]; simp
theorem sum_take_le (l : List Nat) (k : Nat) (hk : k < l.length) (m : Nat) (h : (l.take k).sum = m) : m + l[k] ≤ l.sum := by
  rw [← sum_take_step l k hk m h]
  have : l.sum = (l.take (k + 1)).sum + (l.drop (k + 1)).sum := by rw [← List.sum_append, List.take_append_drop]
  omega
theorem left_sum (S : List Nat) (n : Nat) (b : Int) (m k : Nat) (hk : k = S.length) (h : (S.take k).sum = m) (hm : 0 ≤ b - n - (m : Int)) : left (n + S.sum) b = b - n - (m : Int) := by
  subst hk
  rw [List.take_length] at h
  subst h
  unfold left
  rw [if_neg (by omega)]; omega
end Go.Proofs.YtpdmdfkcaabnaaaGreatDoor
/- slices.IndexFunc, ContainsFunc, Index, Contains at []int. -/
namespace Go.Proofs.YtpdmdfkcaabnaaaGreatDoor
open Go.RowKit
set_option linter.unusedVariables false
set_option linter.unusedSimpArgs false
/-- A call of this function enters its body. -/
def Plain (P : Program) (K : Nat) : Prop := ∀ (args : Array Value) (w : World), (callFunc K args).run P w = .ok (.enter K args) w
theorem plain_of {P : Program} {K : Nat} {fn : Func} (hf : P.funcs[K]? = some fn) (hn : (fn.name == "runtime.NumGoroutine") = false) (hb : fn.body.isNone = false) : Plain P K := by
  intro args w
  have h1 : fn.name ≠ "runtime.NumGoroutine" := by simpa using hn
  have h2 : fn.body ≠ none := fun e => by rw [e] at hb; cases hb
  simp [callFunc, Sem.run_bind, hf, h1, h2, go_sem]
/-- The place of the first element that a test takes, or -1. -/
def idxI {α : Type} (p : α → Bool) (l : List α) : Int := match l.findIdx? p with | some i => (i : Int) | none => -1
theorem idxI_at {α : Type} (p : α → Bool) (l : List α) (i : Nat) (hi : i < l.length) (hp : p l[i] = true) (hn : ∀ j (hj : j < l.length), j < i → p l[j] = false) : idxI p l = i := by
  have : l.findIdx? p = some i := by
    rw [List.findIdx?_eq_some_iff_getElem]
    exact ⟨hi, hp, fun j hji => by simpa using hn j (by omega) hji⟩
  simp [idxI, this]
theorem idxI_none {α : Type} (p : α → Bool) (l : List α) (hn : ∀ j (hj : j < l.length), p l[j] = false) : idxI p l = -1 := by
  have : l.findIdx? p = none := by
    rw [List.findIdx?_eq_none_iff]
    intro x hx
    obtain ⟨j, hj, rfl⟩ := List.mem_iff_getElem.1 hx
    exact hn j hj
  simp [idxI, this]
theorem idxI_any {α : Type} (p : α → Bool) (l : List α) : decide (0 ≤ idxI p l) = l.any p := by
  unfold idxI
  cases h : l.findIdx? p with
  | none =>
    rw [List.findIdx?_eq_none_iff] at h
    have : l.any p = false := by rw [List.any_eq_false]; intro x hx; simp [h x hx]
    simp [this]
  | some i =>
    rw [List.findIdx?_eq_some_iff_getElem] at h
    obtain ⟨hi, hp, _⟩ := h
    have : l.any p = true := List.any_eq_true.2 ⟨l[i], List.getElem_mem hi, hp⟩
    simp [this]
set_option maxRecDepth 100000 in
set_option maxHeartbeats 800000 in
theorem indexFuncInt_any (K : Nat) (hK : Plain Tryz.prog K) (caps : Array Value) (A : Int → Array Value) (hA : ∀ x, #[.int .i64 x] ++ caps = A x) (p : Int → Bool) (v : Value) (l : List Int) (f : List Nat) (w : World) (h : ints w v l f)
    (hcall : ∀ (i : Nat) (hi : i < l.length) (w' : World), Below w.heap.size w w' → Calls Tryz.prog K (A l[i]) w' fun e w'' => e = .returned (.bool (p l[i])) ∧ Below w'.heap.size w' w'') :
    Calls Tryz.prog 198 #[v, .func (.func K) #[] caps] w fun e w' => e = .returned (.int .i64 (idxI p l)) ∧ Below w.heap.size w w' := by
  obtain ⟨a, cap, rfl⟩ := slR.form h
  have hla := slR.le_max h
  have HC := Lib.hid hcall
  have HA := Lib.hid hA
  clear hcall hA
  unfold Plain at hK
  go_enter Tryz.func198, Tryz.ntmps198
  go_wp2
  go_loopw [8] (fun i wr => ∃ k : Nat, i = .int .i64 k ∧ k ≤ l.length ∧ Hid (∀ j (hj : j < l.length), j < k → p l[j] = false) ∧ Below w.heap.size w wr) (fun i _ => l.length - (intOf i).toNat)
  case atStart => exact ⟨0, rfl, Nat.zero_le _, Lib.hid (fun j hj h0 => by omega), Below.refl _ _⟩
  case round =>
    obtain ⟨k, rfl, hk, HN, hbel⟩ := hrel
    by_cases hlt : k < l.length
    · obtain ⟨g, rfl, hc, _, _, _⟩ := (h.below' hbel).get k hlt
      go_wp2_with fail
      have hAk := HA.out l[k]
      rw [hAk]
      clear hAk
      refine (HC.out k hlt _ hbel).mono ?_
      rintro e w1 ⟨rfl, hb1⟩
      have hb2 := hbel.trans (hb1.mono hbel.size)
      cases hp : p l[k] with
      | true =>
        have Hf := Lib.hid (idxI_at p l k hlt hp HN.out)
        clear hp
        go_wp2
        go_ret
        exact ⟨ret_int (by rw [Hf.out]), hb2⟩
      | false =>
        have HN2 := Lib.hid (show ∀ j (hj : j < l.length), j < k + 1 → p l[j] = false from fun j hj h1 => by
          by_cases e : j = k
          · subst e; exact hp
          · exact HN.out j hj (by omega))
        clear hp
        go_wp2
        go_roundw
        case rel => exact ⟨k + 1, by go_num, by omega, HN2, hb2⟩
        case measure => simp [intOf]; omega
    · have hkl : k = l.length := by omega
      have Hf := Lib.hid (idxI_none p l (fun j hj => HN.out j hj (by omega)))
      go_wp2
      go_ret
      exact ⟨ret_int (by rw [Hf.out]), hbel⟩
set_option maxRecDepth 100000 in
set_option maxHeartbeats 800000 in
theorem indexFuncIntQ_any (K : Nat) (hK : Plain Tryz.prog K) (caps : Array Value) (A : Int → Array Value) (hA : ∀ x, #[.int .i64 x] ++ caps = A x) (p : Int → Bool) (v : Value) (l : List Int) (f : List Nat) (w : World) (h : ints w v l f)
    (hcall : ∀ (i : Nat) (hi : i < l.length), Calls Tryz.prog K (A l[i]) w fun e w'' => e = .returned (.bool (p l[i])) ∧ w = w'') :
    Calls Tryz.prog 198 #[v, .func (.func K) #[] caps] w fun e w' => e = .returned (.int .i64 (idxI p l)) ∧ w = w' := by
  obtain ⟨a, cap, rfl⟩ := slR.form h
  have hla := slR.le_max h
  have HC := Lib.hid hcall
  have HA := Lib.hid hA
  clear hcall hA
  unfold Plain at hK
  go_enter Tryz.func198, Tryz.ntmps198
  go_wp2
  go_loop [8] (fun i => ∃ k : Nat, i = .int .i64 k ∧ k ≤ l.length ∧ Hid (∀ j (hj : j < l.length), j < k → p l[j] = false)) (fun i => l.length - (intOf i).toNat)
  case atStart => exact ⟨0, rfl, Nat.zero_le _, Lib.hid (fun j hj h0 => by omega)⟩
  case round =>
    obtain ⟨k, rfl, hk, HN⟩ := hrel
    by_cases hlt : k < l.length
    · obtain ⟨g, rfl, hc, _, _, _⟩ := h.get k hlt
      go_wp2_with fail
      have hAk := HA.out l[k]
      rw [hAk]
      clear hAk
      refine (HC.out k hlt).mono ?_
      rintro e w1 ⟨rfl, rfl⟩
      cases hp : p l[k] with
      | true =>
        have Hf := Lib.hid (idxI_at p l k hlt hp HN.out)
        clear hp
        go_wp2
        go_ret
        exact ⟨ret_int (by rw [Hf.out]), rfl⟩
      | false =>
        have HN2 := Lib.hid (show ∀ j (hj : j < l.length), j < k + 1 → p l[j] = false from fun j hj h1 => by
          by_cases e : j = k
          · subst e; exact hp
          · exact HN.out j hj (by omega))
        clear hp
        go_wp2
        go_round
        case rel => exact ⟨k + 1, by go_num, by omega, HN2⟩
        case measure => simp [intOf]; omega
    · have hkl : k = l.length := by omega
      have Hf := Lib.hid (idxI_none p l (fun j hj => HN.out j hj (by omega)))
      go_wp2
      go_ret
      exact ⟨ret_int (by rw [Hf.out]), rfl⟩
theorem containsFuncIntQ_any (K : Nat) (hK : Plain Tryz.prog K) (caps : Array Value) (A : Int → Array Value) (hA : ∀ x, #[.int .i64 x] ++ caps = A x) (p : Int → Bool) (v : Value) (l : List Int) (f : List Nat) (w : World) (h : ints w v l f)
    (hcall : ∀ (i : Nat) (hi : i < l.length), Calls Tryz.prog K (A l[i]) w fun e w'' => e = .returned (.bool (p l[i])) ∧ w = w'') :
    Calls Tryz.prog 151 #[v, .func (.func K) #[] caps] w fun e w' => e = .returned (.bool (l.any p)) ∧ w = w' := by
  obtain ⟨a, cap, rfl⟩ := slR.form h
  have HC := Lib.hid hcall
  have HA := Lib.hid hA
  have Ha := Lib.hid (idxI_any p l)
  clear hcall hA
  go_enter Tryz.func151, Tryz.ntmps151
  go_wp2_with fail
  refine (indexFuncIntQ_any K hK caps A HA.out p _ l f _ h HC.out).mono ?_
  rintro e w1 ⟨rfl, rfl⟩
  go_wp2
  go_ret
  exact ⟨ret_bool (by rw [← Ha.out]), rfl⟩
theorem containsFuncInt_any (K : Nat) (hK : Plain Tryz.prog K) (caps : Array Value) (A : Int → Array Value) (hA : ∀ x, #[.int .i64 x] ++ caps = A x) (p : Int → Bool) (v : Value) (l : List Int) (f : List Nat) (w : World) (h : ints w v l f)
    (hcall : ∀ (i : Nat) (hi : i < l.length) (w' : World), Below w.heap.size w w' → Calls Tryz.prog K (A l[i]) w' fun e w'' => e = .returned (.bool (p l[i])) ∧ Below w'.heap.size w' w'') :
    Calls Tryz.prog 151 #[v, .func (.func K) #[] caps] w fun e w' => e = .returned (.bool (l.any p)) ∧ Below w.heap.size w w' := by
  obtain ⟨a, cap, rfl⟩ := slR.form h
  have HC := Lib.hid hcall
  have HA := Lib.hid hA
  have Ha := Lib.hid (idxI_any p l)
  clear hcall hA
  go_enter Tryz.func151, Tryz.ntmps151
  go_wp2_with fail
  refine (indexFuncInt_any K hK caps A HA.out p _ l f _ h HC.out).mono ?_
  rintro e w1 ⟨rfl, hb1⟩
  go_wp2
  go_ret
  exact ⟨ret_bool (by rw [← Ha.out]), hb1⟩
set_option maxRecDepth 100000 in
set_option maxHeartbeats 800000 in
theorem indexInt_any (v : Value) (x : Int) (l : List Int) (f : List Nat) (w : World) (h : ints w v l f) :
    Calls Tryz.prog 206 #[v, .int .i64 x] w fun e w' => e = .returned (.int .i64 (idxI (fun y => x == y) l)) ∧ Below w.heap.size w w' := by
  obtain ⟨a, cap, rfl⟩ := slR.form h
  have hla := slR.le_max h
  go_enter Tryz.func206, Tryz.ntmps206
  go_wp2
  go_loopw [8] (fun i wr => ∃ k : Nat, i = .int .i64 k ∧ k ≤ l.length ∧ Hid (∀ j (hj : j < l.length), j < k → (x == l[j]) = false) ∧ Below w.heap.size w wr) (fun i _ => l.length - (intOf i).toNat)
  case atStart => exact ⟨0, rfl, Nat.zero_le _, Lib.hid (fun j hj h0 => by omega), Below.refl _ _⟩
  case round =>
    obtain ⟨k, rfl, hk, HN, hbel⟩ := hrel
    by_cases hlt : k < l.length
    · obtain ⟨g, rfl, hc, _, _, _⟩ := (h.below' hbel).get k hlt
      cases hp : (x == l[k]) with
      | true =>
        have Hf := Lib.hid (idxI_at (fun y => x == y) l k hlt hp HN.out)
        go_wp2
        go_ret
        exact ⟨ret_int (by rw [Hf.out]), hbel⟩
      | false =>
        have HN2 := Lib.hid (show ∀ j (hj : j < l.length), j < k + 1 → (x == l[j]) = false from fun j hj h1 => by
          by_cases e : j = k
          · subst e; exact hp
          · exact HN.out j hj (by omega))
        go_wp2
        go_roundw
        case rel => exact ⟨k + 1, by go_num, by omega, HN2, hbel⟩
        case measure => simp [intOf]; omega
    · have hkl : k = l.length := by omega
      have Hf := Lib.hid (idxI_none (fun y => x == y) l (fun j hj => HN.out j hj (by omega)))
      go_wp2
      go_ret
      exact ⟨ret_int (by rw [Hf.out]), hbel⟩
theorem any_contains (x : Int) (l : List Int) : l.any (fun y => x == y) = l.contains x := by
  induction l with
  | nil => rfl
  | cons a t ih => rw [List.any_cons, ih]; rfl
theorem containsInt_any (v : Value) (x : Int) (l : List Int) (f : List Nat) (w : World) (h : ints w v l f) :
    Calls Tryz.prog 175 #[v, .int .i64 x] w fun e w' => e = .returned (.bool (l.contains x)) ∧ Below w.heap.size w w' := by
  obtain ⟨a, cap, rfl⟩ := slR.form h
  have Ha := Lib.hid ((idxI_any (fun y => x == y) l).trans (any_contains x l))
  go_enter Tryz.func175, Tryz.ntmps175
  go_wp2_with fail
  refine (indexInt_any _ x l f _ h).mono ?_
  rintro e w1 ⟨rfl, hb1⟩
  go_wp2
  go_ret
  exact ⟨ret_bool (by rw [← Ha.out]), hb1⟩
end Go.Proofs.YtpdmdfkcaabnaaaGreatDoor
/- IsSchema, of the program and of the reference; hasRel. -/
namespace Go.Proofs.YtpdmdfkcaabnaaaGreatDoor
open Go.RowKit
set_option linter.unusedVariables false
set_option linter.unusedSimpArgs false
/-- Is it a schema. -/
def schemaB (s : List Int) : Bool := inR s.length 1 3 && !(s.any fun n => !inR n 1 3)
theorem any_false_of {α : Type} {p : α → Bool} {l : List α} (h : ∀ j (hj : j < l.length), p l[j] = false) : l.any p = false := by
  rw [List.any_eq_false]
  intro x hx
  obtain ⟨j, hj, rfl⟩ := List.mem_iff_getElem.1 hx
  simp [h j hj]
theorem any_true_of {α : Type} {p : α → Bool} {l : List α} {j : Nat} (hj : j < l.length) (h : p l[j] = true) : l.any p = true := List.any_eq_true.2 ⟨l[j], List.getElem_mem hj, h⟩
theorem none_step {α : Type} {p : α → Bool} {l : List α} {k : Nat} (H : ∀ j (hj : j < l.length), j < k → p l[j] = false) (hk : k < l.length) (h : p l[k] = false) : ∀ j (hj : j < l.length), j < k + 1 → p l[j] = false := by
  intro j hj h1
  by_cases e : j = k
  · subst e; exact h
  · exact H j hj (by omega)
set_option maxRecDepth 100000 in
set_option maxHeartbeats 800000 in
theorem specIsSchema_any (v : Value) (s : List Int) (f : List Nat) (w : World) (h : ints w v s f) :
    Calls Tryz.prog 78 #[v] w fun e w' => e = .returned (.bool (schemaB s)) ∧ w = w' := by
  obtain ⟨a, cap, rfl⟩ := slR.form h
  have hla := slR.le_max h
  go_enter Tryz.func78, Tryz.ntmps78
  go_wp2
  go_loop [3] (fun i => ∃ k : Nat, i = .int .i64 k ∧ k ≤ s.length ∧ Hid (∀ j (hj : j < s.length), j < k → (!inR s[j] 1 3) = false)) (fun i => s.length - (intOf i).toNat)
  case atStart => exact ⟨0, rfl, Nat.zero_le _, Lib.hid (fun j hj h0 => by omega)⟩
  case round =>
    obtain ⟨k, rfl, hk, HN⟩ := hrel
    by_cases hlt : k < s.length
    · obtain ⟨g, rfl, hc, _, _, _⟩ := h.get k hlt
      cases hp : inR s[k] 1 3 with
      | false =>
        have Hf := Lib.hid (show schemaB s = false by unfold schemaB; rw [any_true_of (p := fun n => !inR n 1 3) hlt (by simp [hp])]; simp)
        go_wp2_with (go_at_call 86; refine (f86_any _ _ _ _).mono ?_; rintro e w' ⟨rfl, rfl⟩)
        go_ret
        exact ⟨ret_bool (by rw [Hf.out]), rfl⟩
      | true =>
        have HN2 := Lib.hid (none_step (p := fun n => !inR n 1 3) HN.out hlt (by simp [hp]))
        go_wp2_with (go_at_call 86; refine (f86_any _ _ _ _).mono ?_; rintro e w' ⟨rfl, rfl⟩)
        go_round
        case rel => exact ⟨k + 1, by go_num, by omega, HN2⟩
        case measure => simp [intOf]; omega
    · have hkl : k = s.length := by omega
      have Hf := Lib.hid (show schemaB s = inR s.length 1 3 by unfold schemaB; rw [any_false_of (p := fun n => !inR n 1 3) (fun j hj => HN.out j hj (by omega))]; simp)
      go_wp2_with (go_at_call 86; refine (f86_any _ _ _ _).mono ?_; rintro e w' ⟨rfl, rfl⟩)
      go_ret
      exact ⟨ret_bool (by rw [Hf.out]), rfl⟩
theorem isSchema1_any (x : Int) (w : World) :
    Calls Tryz.prog 152 #[.int .i64 x] w fun e w' => e = .returned (.bool (!inR x 1 3)) ∧ w = w' := by
  go_enter Tryz.func152, Tryz.ntmps152
  go_wp2_with (go_at_call 107; refine (f107_any _ _ _ _).mono ?_; rintro e w' ⟨rfl, rfl⟩)
  go_ret
  exact ⟨rfl, rfl⟩
set_option maxRecDepth 100000 in
set_option maxHeartbeats 800000 in
theorem implIsSchema_any (v : Value) (s : List Int) (f : List Nat) (w : World) (h : ints w v s f) :
    Calls Tryz.prog 77 #[v] w fun e w' => e = .returned (.bool (schemaB s)) ∧ w = w' := by
  obtain ⟨a, cap, rfl⟩ := slR.form h
  have hla := slR.le_max h
  have hP := plain_of Tryz.func152 (by kernel_rfl) (by kernel_rfl)
  cases hp : inR s.length 1 3 with
  | false =>
    have Hf := Lib.hid (show schemaB s = false by unfold schemaB; rw [hp]; rfl)
    go_enter Tryz.func77, Tryz.ntmps77
    go_wp2_with (go_at_call 107; refine (f107_any _ _ _ _).mono ?_; rintro e w' ⟨rfl, rfl⟩)
    go_ret
    exact ⟨ret_bool (by rw [Hf.out]), rfl⟩
  | true =>
    have Hf := Lib.hid (show schemaB s = !(s.any fun n => !inR n 1 3) by unfold schemaB; rw [hp]; rfl)
    go_enter Tryz.func77, Tryz.ntmps77
    go_wp2_with (go_at_call 107; refine (f107_any _ _ _ _).mono ?_; rintro e w' ⟨rfl, rfl⟩)
    refine (containsFuncIntQ_any _ hP #[] (fun x => #[.int .i64 x]) (fun _ => rfl) (fun n => !inR n 1 3) _ s f _ h (fun i hi => isSchema1_any _ _)).mono ?_
    rintro e w1 ⟨rfl, rfl⟩
    go_wp2
    go_ret
    exact ⟨ret_bool (by rw [Hf.out]), rfl⟩
end Go.Proofs.YtpdmdfkcaabnaaaGreatDoor
/- What the functions compute, in plain terms: schemas, facts, atoms, methods, accesses, comparison, values. No condition. -/
namespace Go.Proofs.YtpdmdfkcaabnaaaGreatDoor
open Go.RowKit
set_option linter.unusedVariables false
set_option linter.unusedSimpArgs false

/-! ### Worlds -/
theorem ba {w w' : World} {o : Obj} (h : Below w.heap.size w w') : Below w.heap.size w (w'.alloc o) := h.alloc h.size _
theorem bdr {w w' : World} (h : Below w.heap.size w w') : Below w.heap.size w w'.drew := h.drew
theorem bt {w w1 w2 : World} (h : Below w.heap.size w w1) (k : Below w1.heap.size w1 w2) : Below w.heap.size w w2 := h.trans (k.mono h.size)
theorem bs {w w' : World} {p : Addr} {u : Value} (h : Below w.heap.size w w') (hp : w.heap.size ≤ p.block) : Below w.heap.size w (w'.setCell p u) := h.setCell hp u
/-- A world that differs by draws alone. -/
def Qt (w w' : World) : Prop := ∃ m, w' = w.drewN m
theorem Qt.refl (w : World) : Qt w w := ⟨0, rfl⟩
theorem Qt.trans {a b c : World} (h : Qt a b) (k : Qt b c) : Qt a c := by
  obtain ⟨m, rfl⟩ := h
  obtain ⟨n, rfl⟩ := k
  exact ⟨m + n, World.drewN_drewN _ _ _⟩
theorem Qt.dn (w : World) (n : Nat) : Qt w (w.drewN n) := ⟨n, rfl⟩
theorem Qt.below {a b : World} (h : Qt a b) : Below a.heap.size a b := by
  obtain ⟨m, rfl⟩ := h
  exact ⟨rfl, rfl, rfl, Nat.le_refl _, fun _ _ => rfl⟩
theorem bdn {B : Nat} {w w' : World} {n : Nat} (h : Below B w w') : Below B w (w'.drewN n) := ⟨h.os, h.tape, h.output, h.size, h.block⟩
theorem bqt {w w1 w2 : World} (h : Below w.heap.size w w1) (k : Qt w1 w2) : Below w.heap.size w w2 := bt h k.below
theorem qOf {P : Program} {f : FuncId} {args : Array Value} {w : World} {n : Nat} {v : Value} (h : Calls P f args (w.drewN n) fun e w' => e = .returned v ∧ Qt (w.drewN n) w') :
    Calls P f args (w.drewN n) fun e w'' => e = .returned v ∧ ∃ m, w'' = w.drewN m := Calls.quiet_of (h.mono fun _ _ h => h)
theorem qEq {P : Program} {f : FuncId} {args : Array Value} {w : World} {n : Nat} {v : Value} (h : Calls P f args (w.drewN n) fun e w' => e = .returned v ∧ w.drewN n = w') :
    Calls P f args (w.drewN n) fun e w'' => e = .returned v ∧ ∃ m, w'' = w.drewN m := h.mono fun _ _ ⟨he, hm⟩ => ⟨he, n, hm.symm⟩
theorem ints.dn {w : World} {v : Value} {l : List Int} {f : List Nat} (h : ints w v l f) (n : Nat) : ints (w.drewN n) v l f := h.frame fun _ _ => rfl
theorem ints.al {w : World} {v : Value} {l : List Int} {f : List Nat} (h : ints w v l f) (o : Obj) : ints (w.alloc o) v l f := h.below' (ba (Below.refl _ _))
theorem cell_new (w : World) (t : TypeId) (cs : Array Value) (j : Nat) (u : Value) (h : cs[j]? = some u) : (w.alloc (.cells cs t)).cell? ⟨w.heap.size, j, none⟩ = some u := ((Blk.new w t cs).cell j).trans h
theorem cell_al {w : World} {a : Addr} {u : Value} (h : w.cell? a = some u) (o : Obj) : (w.alloc o).cell? a = some u := cell_below h (ba (Below.refl _ _))
theorem cell_at (W : World) (n : Nat) (hn : W.heap.size = n) (t : TypeId) (cs : Array Value) (j : Nat) (u : Value) (h : cs[j]? = some u) : (W.alloc (.cells cs t)).cell? ⟨n, j, none⟩ = some u := by
  subst hn; exact cell_new W t cs j u h
theorem lt_of_cell {w : World} {b o : Nat} {u : Value} (h : w.cell? ⟨b, o, none⟩ = some u) : b < w.heap.size := World.block_lt_of_cell? w ⟨b, o, none⟩ h
theorem hide_eq {α : Type} {a b : α} (h : a = b) : Hid (a = b) := Lib.hid h

/-! ### Loops that leave at the first place that a test takes -/
/-- Does a test take a place below n. -/
def anyN (n : Nat) (p : Nat → Bool) : Bool := (List.range n).any p
theorem anyN_true {n : Nat} {p : Nat → Bool} {k : Nat} (hk : k < n) (h : p k = true) : anyN n p = true := by
  unfold anyN; rw [List.any_eq_true]; exact ⟨k, by simpa using hk, h⟩
theorem anyN_false {n : Nat} {p : Nat → Bool} (h : ∀ j, j < n → p j = false) : anyN n p = false := by
  unfold anyN; rw [List.any_eq_false]; intro j hj; simp [h j (by simpa using hj)]
theorem anyN_step {p : Nat → Bool} {k : Nat} (H : ∀ j, j < k → p j = false) (h : p k = false) : ∀ j, j < k + 1 → p j = false := by
  intro j hj
  by_cases e : j = k
  · subst e; exact h
  · exact H j (by omega)
theorem anyN_zero {p : Nat → Bool} : ∀ j, j < 0 → p j = false := fun j h => absurd h (by omega)
theorem anyN_list {α : Type} (l : List α) (p : α → Bool) (q : Nat → Bool) (h : ∀ i (hi : i < l.length), q i = p l[i]) : anyN l.length q = l.any p := by
  unfold anyN
  rw [Bool.eq_iff_iff, List.any_eq_true, List.any_eq_true]
  constructor
  · rintro ⟨i, hi, hq⟩
    have hi' : i < l.length := by simpa using hi
    exact ⟨l[i], List.getElem_mem hi', by rw [← h i hi']; exact hq⟩
  · rintro ⟨x, hx, hp⟩
    obtain ⟨i, hi, rfl⟩ := List.mem_iff_getElem.1 hx
    exact ⟨i, by simpa using hi, by rw [h i hi]; exact hp⟩

/-! ### Two lists side by side -/
def allEq {α β : Type} (p : α → β → Bool) : List α → List β → Bool
  | [], [] => true
  | x :: s, y :: t => p x y && allEq p s t
  | _, _ => false
theorem allEq_len {α β : Type} {p : α → β → Bool} : ∀ {s : List α} {t : List β}, s.length ≠ t.length → allEq p s t = false
  | [], [], h => absurd rfl h
  | [], _ :: _, _ => rfl
  | _ :: _, [], _ => rfl
  | x :: s, y :: t, h => by
    have : s.length ≠ t.length := fun e => h (by simp [e])
    simp [allEq, allEq_len this]
theorem allEq_step {α β : Type} {p : α → β → Bool} {s : List α} {t : List β} {k : Nat} (hs : k < s.length) (ht : k < t.length) (h : p s[k] t[k] = true) : allEq p (s.drop k) (t.drop k) = allEq p (s.drop (k + 1)) (t.drop (k + 1)) := by
  rw [List.drop_eq_getElem_cons hs, List.drop_eq_getElem_cons ht]; simp [allEq, h]
theorem allEq_no {α β : Type} {p : α → β → Bool} {s : List α} {t : List β} {k : Nat} (hs : k < s.length) (ht : k < t.length) (h : p s[k] t[k] = false) : allEq p (s.drop k) (t.drop k) = false := by
  rw [List.drop_eq_getElem_cons hs, List.drop_eq_getElem_cons ht]; simp [allEq, h]
theorem allEq_end {α β : Type} {p : α → β → Bool} {s : List α} {t : List β} {k : Nat} (hs : k = s.length) (h : s.length = t.length) : allEq p (s.drop k) (t.drop k) = true := by
  subst hs; rw [List.drop_length, h, List.drop_length]; rfl
theorem allEq_eq {α : Type} [DecidableEq α] {p : α → α → Bool} (hp : ∀ x y, p x y = decide (x = y)) : ∀ s t : List α, allEq p s t = decide (s = t)
  | [], [] => by simp [allEq]
  | [], _ :: _ => by simp [allEq]
  | _ :: _, [] => by simp [allEq]
  | x :: s, y :: t => by
    simp only [allEq, hp, allEq_eq hp s t]
    by_cases h1 : x = y <;> by_cases h2 : s = t <;> simp [h1, h2]

/-! ### Comparison -/
def cmpI (x y : Int) : Int := if x < y then -1 else if y < x then 1 else 0
def cmpL : List Int → List Int → Int
  | [], [] => 0
  | [], _ :: _ => -1
  | _ :: _, [] => 1
  | x :: s, y :: t => if x < y then -1 else if y < x then 1 else cmpL s t
theorem cmpI_zero {x y : Int} : cmpI x y = 0 ↔ x = y := by
  unfold cmpI
  split
  · omega
  · split <;> omega
theorem cmpI_vals (x y : Int) : cmpI x y = -1 ∧ x < y ∨ cmpI x y = 1 ∧ y < x ∨ cmpI x y = 0 ∧ x = y := by
  unfold cmpI; split
  · left; exact ⟨rfl, by assumption⟩
  · split
    · right; left; exact ⟨rfl, by assumption⟩
    · right; right; exact ⟨rfl, by omega⟩
theorem cmpL_cons (x y : Int) (s t : List Int) : cmpL (x :: s) (y :: t) = if cmpI x y = 0 then cmpL s t else cmpI x y := by
  simp only [cmpL, cmpI]
  by_cases h : x < y
  · simp [h]
  · by_cases h2 : y < x
    · simp [h, h2]
    · simp [h, h2]
theorem cmpL_vals (s t : List Int) : cmpL s t = -1 ∨ cmpL s t = 0 ∨ cmpL s t = 1 := by
  induction s generalizing t with
  | nil => cases t <;> simp [cmpL]
  | cons x s ih =>
    cases t with
    | nil => simp [cmpL]
    | cons y t =>
      rw [cmpL_cons]
      rcases cmpI_vals x y with h | h | h
      · simp [h.1]
      · simp [h.1]
      · simp only [h.1, if_true]; exact ih t
theorem cmpL_zero (s t : List Int) : cmpL s t = 0 ↔ s = t := by
  induction s generalizing t with
  | nil => cases t <;> simp [cmpL]
  | cons x s ih =>
    cases t with
    | nil => simp [cmpL]
    | cons y t =>
      rw [cmpL_cons]
      rcases cmpI_vals x y with h | h | h
      · simp only [h.1]; simp; intro e; omega
      · simp only [h.1]; simp; intro e; omega
      · rw [if_pos h.1, ih t, h.2]; simp
section
variable {s t : List Int} {k : Nat}
theorem cmpL_at (hs : k < s.length) (ht : k < t.length) : cmpL (s.drop k) (t.drop k) = if cmpI s[k] t[k] = 0 then cmpL (s.drop (k + 1)) (t.drop (k + 1)) else cmpI s[k] t[k] := by
  rw [List.drop_eq_getElem_cons hs, List.drop_eq_getElem_cons ht, cmpL_cons]
theorem cmpL_lt (hs : k < s.length) (ht : k < t.length) (h : s[k] < t[k]) : cmpL (s.drop k) (t.drop k) = -1 := by
  rw [cmpL_at hs ht]; have : cmpI s[k] t[k] = -1 := by unfold cmpI; rw [if_pos h]
  rw [this]; rfl
theorem cmpL_gt (hs : k < s.length) (ht : k < t.length) (h : t[k] < s[k]) : cmpL (s.drop k) (t.drop k) = 1 := by
  rw [cmpL_at hs ht]; have : cmpI s[k] t[k] = 1 := by unfold cmpI; rw [if_neg (by omega), if_pos h]
  rw [this]; rfl
theorem cmpL_same (hs : k < s.length) (ht : k < t.length) (h1 : ¬ s[k] < t[k]) (h2 : ¬ t[k] < s[k]) : cmpL (s.drop k) (t.drop k) = cmpL (s.drop (k + 1)) (t.drop (k + 1)) := by
  rw [cmpL_at hs ht]; have : cmpI s[k] t[k] = 0 := by unfold cmpI; rw [if_neg h1, if_neg h2]
  rw [this]; rfl
theorem cmpL_end1 (hs : k = s.length) (h : s.length < t.length) : cmpL (s.drop k) (t.drop k) = -1 := by
  subst hs; rw [List.drop_length, List.drop_eq_getElem_cons h]; rfl
theorem cmpL_end2 (ht : k = t.length) (h : t.length < s.length) : cmpL (s.drop k) (t.drop k) = 1 := by
  subst ht; rw [List.drop_length, List.drop_eq_getElem_cons h]; rfl
theorem cmpL_end3 (hs : k = s.length) (h : s.length = t.length) : cmpL (s.drop k) (t.drop k) = 0 := by
  subst hs; rw [List.drop_length, h, List.drop_length]; rfl
end
def cmpFact (a b : FactD) : Int := if cmpI a.rel b.rel = 0 then cmpL a.vals b.vals else cmpI a.rel b.rel
theorem cmpFact_zero (a b : FactD) : cmpFact a b = 0 ↔ a = b := by
  unfold cmpFact
  rcases cmpI_vals a.rel b.rel with h | h | h
  · simp only [h.1]; simp; intro e; rw [e] at h; omega
  · simp only [h.1]; simp; intro e; rw [e] at h; omega
  · simp only [h.1, if_true, cmpL_zero]
    constructor
    · intro e; cases a; cases b; simp_all
    · intro e; rw [e]

/-- Is a number in a list. -/
def memB (l : List Int) (x : Int) : Bool := l.contains x
theorem memB_iff {l : List Int} {x : Int} : memB l x = true ↔ x ∈ l := List.contains_iff_mem

/-! ### Facts, atoms, methods, accesses -/
/-- The arity that a schema gives a relation. -/
def arity (s : List Int) (r : Int) : Int := s.getD r.toNat 0
/-- Is it a relation of the schema. -/
def hasRelB (s : List Int) (r : Int) : Bool := schemaB s && inR r 0 ((s.length : Int) - 1)
def factB (s : List Int) (x : FactD) : Bool := hasRelB s x.rel && decide ((x.vals.length : Int) = arity s x.rel) && !(x.vals.any fun n => !isVal n)
def atomB (s : List Int) (x : AtomD) : Bool := hasRelB s x.rel && decide ((x.terms.length : Int) = arity s x.rel) && !(x.terms.any fun n => !isTermB n)
/-- What is wrong at a place of a list of facts. -/
def factsBad (s : List Int) (l : List FactD) (i : Nat) : Bool := !factB s (l.getD i ⟨0, []⟩) || (decide (0 < i) && decide (0 ≤ cmpFact (l.getD (i - 1) ⟨0, []⟩) (l.getD i ⟨0, []⟩)))
def factsB (s : List Int) (l : List FactD) : Bool := !anyN l.length (factsBad s l) && schemaB s && decide (l.length ≤ 24)
def hasFactB (l : List FactD) (x : FactD) : Bool := l.any fun y => decide (cmpFact y x = 0)
theorem anyN_or (n : Nat) (p q : Nat → Bool) : anyN n (fun i => p i || q i) = (anyN n p || anyN n q) := by
  unfold anyN
  rw [Bool.eq_iff_iff]
  simp only [List.any_eq_true, Bool.or_eq_true]
  constructor
  · rintro ⟨i, hi, h | h⟩
    · exact .inl ⟨i, hi, h⟩
    · exact .inr ⟨i, hi, h⟩
  · rintro (⟨i, hi, h⟩ | ⟨i, hi, h⟩)
    · exact ⟨i, hi, .inl h⟩
    · exact ⟨i, hi, .inr h⟩
theorem anyN_congr {n : Nat} {p q : Nat → Bool} (h : ∀ i, i < n → p i = q i) : anyN n p = anyN n q := by
  unfold anyN
  rw [Bool.eq_iff_iff, List.any_eq_true, List.any_eq_true]
  constructor <;> rintro ⟨i, hi, hp⟩ <;> exact ⟨i, hi, by have := h i (by simpa using hi); simp_all⟩
theorem getD_lt {α : Type} {l : List α} {d : α} {i : Nat} (h : i < l.length) : l.getD i d = l[i] := by simp [List.getD, List.getElem?_eq_getElem h]
/-- Is a list not strictly ascending at a place. -/
def ascBad (l : List Int) (i : Nat) : Bool := decide (0 < i) && decide (l.getD i 0 ≤ l.getD (i - 1) 0)
def ascB (l : List Int) : Bool := !anyN l.length (ascBad l)
/-- Are the numbers of a method in their ranges, at an arity. -/
def numsB (m : MethD) : Bool := inR m.limit 0 9 && inR m.cost 0 99 && inR m.quota 1 99
def fitsB (m : MethD) (a : Int) : Bool := ascB m.inputs && !(m.inputs.any fun i => !inR i 0 (a - 1)) && numsB m
def inputBad (m : MethD) (a : Int) (i : Nat) : Bool := !inR (m.inputs.getD i 0) 0 (a - 1) || ascBad m.inputs i
theorem fitsB_eq (m : MethD) (a : Int) : fitsB m a = (numsB m && !anyN m.inputs.length (inputBad m a)) := by
  have h : anyN m.inputs.length (inputBad m a) = (anyN m.inputs.length (fun i => !inR (m.inputs.getD i 0) 0 (a - 1)) || anyN m.inputs.length (ascBad m.inputs)) := anyN_or _ _ _
  have h2 : anyN m.inputs.length (fun i => !inR (m.inputs.getD i 0) 0 (a - 1)) = m.inputs.any fun i => !inR i 0 (a - 1) := anyN_list _ _ _ fun i hi => by simp only [getD_lt hi]
  rw [h, h2]
  unfold fitsB ascB
  cases anyN m.inputs.length (ascBad m.inputs) <;> cases (m.inputs.any fun i => !inR i 0 (a - 1)) <;> cases numsB m <;> rfl
def methB (s : List Int) (m : MethD) : Bool := hasRelB s m.rel && fitsB m (arity s m.rel)
def methsB (s : List Int) (l : List MethD) : Bool := schemaB s && decide (l.length ≤ 5) && !(l.any fun m => !methB s m)
def methAt (l : List MethD) (i : Int) : MethD := l.getD i.toNat ⟨0, [], 0, 0, 0⟩
def accB (s : List Int) (l : List MethD) (a : AccD) : Bool := methsB s l && inR a.meth 0 ((l.length : Int) - 1) && decide (a.vals.length = (methAt l a.meth).inputs.length) && !(a.vals.any fun n => !isVal n)
def inBad (a : AtomD) (bound : List Int) (i : Int) : Bool := !inR i 0 ((a.terms.length : Int) - 1) || (isVarB (a.terms.getD i.toNat 0) && !memB bound (a.terms.getD i.toNat 0))
def canCallB (m : MethD) (a : AtomD) (bound : List Int) : Bool := decide (m.rel = a.rel) && !(m.inputs.any (inBad a bound))
/-- What a method costs. -/
def costB (l : List MethD) (i : Int) : Int := if inR i 0 ((l.length : Int) - 1) && inR (methAt l i).cost 0 99 then (methAt l i).cost else 0
/-- The value that two lists side by side give a variable. -/
def lookL : List Int → List Int → Int → Int
  | v :: vs, x :: xs, t => if v = t then x else lookL vs xs t
  | _, _, _ => -1
def boundL : List Int → List Int → Int → Bool
  | v :: vs, _ :: xs, t => if v = t then true else boundL vs xs t
  | _, _, _ => false
theorem lookL_at {vs xs : List Int} {t : Int} {k : Nat} (h1 : k < vs.length) (h2 : k < xs.length) : lookL (vs.drop k) (xs.drop k) t = if vs[k] = t then xs[k] else lookL (vs.drop (k + 1)) (xs.drop (k + 1)) t := by
  rw [List.drop_eq_getElem_cons h1, List.drop_eq_getElem_cons h2]; rfl
theorem lookL_end {vs xs : List Int} {t : Int} {k : Nat} (h : vs.length ≤ k ∨ xs.length ≤ k) : lookL (vs.drop k) (xs.drop k) t = -1 := by
  rcases h with h | h
  · rw [List.drop_eq_nil_of_le h]; cases xs.drop k <;> rfl
  · rw [List.drop_eq_nil_of_le h]; cases vs.drop k <;> rfl
theorem boundL_at {vs xs : List Int} {t : Int} {k : Nat} (h1 : k < vs.length) (h2 : k < xs.length) : boundL (vs.drop k) (xs.drop k) t = if vs[k] = t then true else boundL (vs.drop (k + 1)) (xs.drop (k + 1)) t := by
  rw [List.drop_eq_getElem_cons h1, List.drop_eq_getElem_cons h2]; rfl
theorem boundL_end {vs xs : List Int} {t : Int} {k : Nat} (h : vs.length ≤ k ∨ xs.length ≤ k) : boundL (vs.drop k) (xs.drop k) t = false := by
  rcases h with h | h
  · rw [List.drop_eq_nil_of_le h]; cases xs.drop k <;> rfl
  · rw [List.drop_eq_nil_of_le h]; cases vs.drop k <;> rfl
/-- The place in the shorter of two lists. -/
def entryL (vs xs : List Int) (t : Int) : Int := idxI (fun y => t == y) (vs.take (min vs.length xs.length))
end Go.Proofs.YtpdmdfkcaabnaaaGreatDoor
