/- Small laws over any program: append of one new element to a row of the call's own, and what such a row comes to. No condition. -/
import Derived.WalkKit
import Derived.ProofKit
import Derived.Lib.Hide
import Derived.Outline
import Derived.OwnWalk
import Derived.Below
namespace Go.Proofs.YtpdmdfkcaabnaaaGreat
open Go.RowKit
set_option linter.unusedVariables false
set_option linter.unusedSimpArgs false

/-- Type T is a slice of elements of type E, of zero value z, each of so many cells and bytes. -/
structure SlT (P : Program) (T E : TypeId) (z : Value) (size bytes : Nat) : Prop where
  und : P.underlying T = some (.slice E)
  inf : ∃ i, P.info? E = some i ∧ i.zero = some z ∧ i.size = size ∧ i.bytes = bytes
  zs : z.cells.size = size
  pos : 0 < size

theorem slT_of {P : Program} {T E : TypeId} {size bytes : Nat} {z : Value} (h : P.underlying T = some (.slice E))
    (hi : (P.info? E).map (fun i => (i.zero, i.size, i.bytes)) = some (some z, size, bytes)) (hz : z.cells.size = size) (hp : 0 < size) : SlT P T E z size bytes := by
  obtain ⟨i, h1, h2, h3, h4⟩ := info_parts hi
  exact ⟨h, ⟨i, h1, h2, h3, h4⟩, hz, hp⟩

/-- make of n elements: a new block of zero cells. -/
theorem make_row {P : Program} {T E : TypeId} {z : Value} {size bytes : Nat} (hT : SlT P T E z size bytes) (n : Nat) (hb : n * bytes ≤ 281474976710656) (hm : n ≤ 9223372036854775807) (w : World) :
    (Instr.makeSlice T (.int .i64 (n : Int)) (.int .i64 (n : Int))).run P w = .ok (.slice (some ⟨w.heap.size, 0, none⟩) n n) (w.alloc (.cells (madeCells z.cells (n * size)) E)) := by
  obtain ⟨i, hi, hz, hsz, hby⟩ := hT.inf
  have hb' : (i.bytes : Int) * (n : Int) ≤ 281474976710656 := by
    rw [hby, ← Int.natCast_mul, Nat.mul_comm]; omega
  have hr := run_make (P := P) w T E i z hT.und hi hz .i64 .i64 n n (by omega) (by omega) hb' (by omega)
  simp only [Int.toNat_natCast, hsz] at hr
  exact hr

/-- Block g holds just these cells, none of them frozen. -/
def Blk (w : World) (g : Nat) (t : TypeId) (cs : Array Value) : Prop := w.heap[g]? = some (.cells cs t (0, 0))
section
variable {w w' : World} {g : Nat} {t : TypeId} {cs : Array Value}
theorem Blk.lt (h : Blk w g t cs) : g < w.heap.size := by
  rcases Nat.lt_or_ge g w.heap.size with hlt | hge
  · exact hlt
  · unfold Blk at h; rw [Array.getElem?_eq_none hge] at h; cases h
theorem Blk.cell (h : Blk w g t cs) (i : Nat) : w.cell? ⟨g, i, none⟩ = cs[i]? := cell_of_row w g i cs t (0, 0) h
theorem Blk.frozen (h : Blk w g t cs) (i : Nat) : w.frozen? ⟨g, i, none⟩ = false := by
  unfold Blk at h
  simp [World.frozen?, h]
theorem Blk.new (w : World) (t : TypeId) (cs : Array Value) : Blk (w.alloc (.cells cs t)) w.heap.size t cs := heap_alloc_new w _
theorem Blk.drew (h : Blk w g t cs) : Blk w.drew g t cs := h
theorem Blk.alloc (h : Blk w g t cs) (o : Obj) : Blk (w.alloc o) g t cs := (Below.heap_alloc w o g h.lt).trans h
theorem Blk.set (h : Blk w g t cs) (i : Nat) (u : Value) : Blk (w.setCell ⟨g, i, none⟩ u) g t (cs.setIfInBounds i u) := by
  unfold Blk at h ⊢
  simp [World.setCell, Array.getElem?_modify, h]
theorem Blk.far (h : Blk w g t cs) {p : Addr} (hp : g ≠ p.block) (u : Value) : Blk (w.setCell p u) g t cs := (Below.heap_setCell w p u g hp).trans h
theorem Blk.below {B : Nat} (h : Blk w g t cs) (hb : Below B w w') (hg : g < B) : Blk w' g t cs := (hb.block g hg).trans h
theorem Blk.below' (h : Blk w g t cs) (hb : Below w.heap.size w w') : Blk w' g t cs := h.below hb h.lt
theorem Blk.grown {row : Option Nat} (h : Blk w g t cs) (hb : w.grownBy w' row) (hg : some g ≠ row) : Blk w' g t cs := (hb.block g h.lt hg).trans h
end

theorem grownBy_trans {a b c : World} {row : Option Nat} (h : a.grownBy b row) (k : b.grownBy c row) : a.grownBy c row :=
  ⟨k.os.trans h.os, k.tape.trans h.tape, k.output.trans h.output, Nat.le_trans h.size k.size,
    fun i hi hne => (k.block i (Nat.lt_of_lt_of_le hi h.size) hne).trans (h.block i hi hne)⟩
theorem grownBy_drew {a w : World} {row : Option Nat} (h : a.grownBy w row) : a.grownBy w.drew row := ⟨h.os, h.tape, h.output, h.size, h.block⟩
theorem below_of_grown {w w' : World} {B : Nat} {row : Option Nat} (hg : w.grownBy w' row) (hB : B ≤ w.heap.size) (hr : ∀ k, row = some k → B ≤ k) : Below B w w' :=
  (Below.refl B w).grown hg hB hr

/-! append(s, x..) of m elements, which the walk has just laid in a block of its own: outside and inside a region that draws its order. -/
theorem append_news {P : Program} {T E : TypeId} {z : Value} {size bytes : Nat} (hT : SlT P T E z size bytes) {w w0 : World} {ops : Array Oper} {rest : List Oper} {o : Oper} {a : Act} {Q : Exit → Act → World → Prop}
    (hgd : o.guard = none) (s x : Operand) (ho : o.op = .call { callee := .builtin .append, args := #[s, x], argTypes := #[T, T] })
    (v : Value) (n : Nat) (xs : List Value) (hbel : Below w0.heap.size w0 w) (hown : w.ownsRow w0.heap.size E size v n xs) (hs : a.eval s = v)
    (cs : Array Value) (m : Nat) (hcs : cs.size = m * size) (hx : a.eval x = .slice (some ⟨w.heap.size, 0, none⟩) m m) (h1 : ∀ u ∈ cs.toList, u.oneCell' = true)
    (hn : (n + m) * bytes ≤ 140737488355328) (hm : n + m ≤ maxLen)
    (h : ∀ v' w', w'.ownsRow w0.heap.size E size v' (n + m) (xs ++ cs.toList) → w.grownBy w' v.ownBlock → Below w0.heap.size w0 w' → wpList P ops Q rest (a.put o.dst v') w') :
    wpList P ops Q (o :: rest) a (w.alloc (.cells cs E)) := by
  obtain ⟨i, hi, hz, hsz, hby⟩ := hT.inf
  have hzs := hT.zs
  have hown' : (w.alloc (.cells cs E)).ownsRow w0.heap.size E size v n xs := hown.alloc _
  have hbase := hbel.size
  refine wpList_append_own _ hgd s x T ho w0.heap.size E i z size bytes hT.und hi hz hsz hby hzs hT.pos v n xs hs hown' ⟨w.heap.size, 0, none⟩ m m cs.toList hx (by simp [hcs]) ?_ h1 hm hn (by show w0.heap.size ≤ (w.heap.push _).size; simp; omega) ?_
  · intro j u hj
    have hadd : (⟨w.heap.size, 0, none⟩ : Addr).add j = ⟨w.heap.size, j, none⟩ := by unfold Addr.add; split <;> simp_all
    have hcell : (w.alloc (.cells cs E)).cell? ⟨w.heap.size, j, none⟩ = some u := by
      rw [World.cell?_alloc_at (hn := rfl)]
      simpa using hj
    rw [hadd]
    exact hcell
  · intro v' w' hv' hg _
    have hg0 : w.grownBy (w.alloc (.cells cs E)) v.ownBlock := World.grownBy_alloc _ _ _
    have hgr : w.grownBy w' v.ownBlock := grownBy_trans hg0 hg
    exact h v' w' hv' hgr (hbel.trans (below_of_grown hgr hbase (fun k hk => (hown.lt k hk).1)))
theorem append_news_d {P : Program} {T E : TypeId} {z : Value} {size bytes : Nat} (hT : SlT P T E z size bytes) {w w0 : World} {ops : Array Oper} {rest : List Oper} {o : Oper} {a : Act} {Q : Exit → Act → World → Prop}
    (hgd : o.guard = none) (s x : Operand) (ho : o.op = .call { callee := .builtin .append, args := #[s, x], argTypes := #[T, T] })
    (v : Value) (n : Nat) (xs : List Value) (hbel : Below w0.heap.size w0 w) (hown : w.ownsRow w0.heap.size E size v n xs) (hs : a.eval s = v)
    (cs : Array Value) (m : Nat) (hcs : cs.size = m * size) (hx : a.eval x = .slice (some ⟨w.heap.size, 0, none⟩) m m) (h1 : ∀ u ∈ cs.toList, u.oneCell' = true)
    (hn : (n + m) * bytes ≤ 140737488355328) (hm : n + m ≤ maxLen)
    (h : ∀ v' w', w'.ownsRow w0.heap.size E size v' (n + m) (xs ++ cs.toList) → w.grownBy w' v.ownBlock → Below w0.heap.size w0 w' → wpList P ops Q rest (a.put o.dst v') w') :
    wpList P ops Q (o :: rest) a (w.alloc (.cells cs E)).drew := by
  obtain ⟨i, hi, hz, hsz, hby⟩ := hT.inf
  have hzs := hT.zs
  have hown' : (w.alloc (.cells cs E)).drew.ownsRow w0.heap.size E size v n xs := hown.alloc _
  have hbase := hbel.size
  refine wpList_append_own _ hgd s x T ho w0.heap.size E i z size bytes hT.und hi hz hsz hby hzs hT.pos v n xs hs hown' ⟨w.heap.size, 0, none⟩ m m cs.toList hx (by simp [hcs]) ?_ h1 hm hn (by show w0.heap.size ≤ (w.heap.push _).size; simp; omega) ?_
  · intro j u hj
    have hadd : (⟨w.heap.size, 0, none⟩ : Addr).add j = ⟨w.heap.size, j, none⟩ := by unfold Addr.add; split <;> simp_all
    have hcell : (w.alloc (.cells cs E)).cell? ⟨w.heap.size, j, none⟩ = some u := by
      rw [World.cell?_alloc_at (hn := rfl)]
      simpa using hj
    rw [hadd]
    exact hcell
  · intro v' w' hv' hg _
    have hg0 : w.grownBy (w.alloc (.cells cs E)).drew v.ownBlock := grownBy_drew (World.grownBy_alloc _ _ _)
    have hgr : w.grownBy w' v.ownBlock := grownBy_trans hg0 hg
    exact h v' w' hv' hgr (hbel.trans (below_of_grown hgr hbase (fun k hk => (hown.lt k hk).1)))
theorem step_append_news {P : Program} {T E : TypeId} {z : Value} {size bytes : Nat} (hT : SlT P T E z size bytes) {w w0 : World} {ops : Array Oper} {o : Oper} {a : Act} {K : Act → World → Prop} {Q : Exit → Act → World → Prop} {F : Prop}
    (hgd : o.guard = none) (s x : Operand) (ho : o.op = .call { callee := .builtin .append, args := #[s, x], argTypes := #[T, T] })
    (v : Value) (n : Nat) (xs : List Value) (hbel : Below w0.heap.size w0 w) (hown : w.ownsRow w0.heap.size E size v n xs) (hs : a.eval s = v)
    (cs : Array Value) (m : Nat) (hcs : cs.size = m * size) (hx : a.eval x = .slice (some ⟨w.heap.size, 0, none⟩) m m) (h1 : ∀ u ∈ cs.toList, u.oneCell' = true)
    (hn : (n + m) * bytes ≤ 140737488355328) (hm : n + m ≤ maxLen)
    (h : ∀ v' w', w'.ownsRow w0.heap.size E size v' (n + m) (xs ++ cs.toList) → w.grownBy w' v.ownBlock → Below w0.heap.size w0 w' → K (a.put o.dst v') w') :
    if Region.wanted o (yielded ops a.tmps) = true then Oper.wp P o a (w.alloc (.cells cs E)) K Q else F := by
  have hw : Region.wanted o (yielded ops a.tmps) = true := by simp [Region.wanted, hgd]
  rw [if_pos hw]
  obtain ⟨i, hi, hz, hsz, hby⟩ := hT.inf
  have hzs := hT.zs
  have hown' : (w.alloc (.cells cs E)).ownsRow w0.heap.size E size v n xs := hown.alloc _
  have hbase := hbel.size
  refine wp_append_own _ s x T ho w0.heap.size E i z size bytes hT.und hi hz hsz hby hzs hT.pos v n xs hs hown' ⟨w.heap.size, 0, none⟩ m m cs.toList hx (by simp [hcs]) ?_ h1 hm hn (by show w0.heap.size ≤ (w.heap.push _).size; simp; omega) ?_
  · intro j u hj
    have hadd : (⟨w.heap.size, 0, none⟩ : Addr).add j = ⟨w.heap.size, j, none⟩ := by unfold Addr.add; split <;> simp_all
    have hcell : (w.alloc (.cells cs E)).cell? ⟨w.heap.size, j, none⟩ = some u := by
      rw [World.cell?_alloc_at (hn := rfl)]
      simpa using hj
    rw [hadd]
    exact hcell
  · intro v' w' hv' hg _
    have hg0 : w.grownBy (w.alloc (.cells cs E)) v.ownBlock := World.grownBy_alloc _ _ _
    have hgr : w.grownBy w' v.ownBlock := grownBy_trans hg0 hg
    exact h v' w' hv' hgr (hbel.trans (below_of_grown hgr hbase (fun k hk => (hown.lt k hk).1)))
theorem step_append_news_d {P : Program} {T E : TypeId} {z : Value} {size bytes : Nat} (hT : SlT P T E z size bytes) {w w0 : World} {ops : Array Oper} {o : Oper} {a : Act} {K : Act → World → Prop} {Q : Exit → Act → World → Prop} {F : Prop}
    (hgd : o.guard = none) (s x : Operand) (ho : o.op = .call { callee := .builtin .append, args := #[s, x], argTypes := #[T, T] })
    (v : Value) (n : Nat) (xs : List Value) (hbel : Below w0.heap.size w0 w) (hown : w.ownsRow w0.heap.size E size v n xs) (hs : a.eval s = v)
    (cs : Array Value) (m : Nat) (hcs : cs.size = m * size) (hx : a.eval x = .slice (some ⟨w.heap.size, 0, none⟩) m m) (h1 : ∀ u ∈ cs.toList, u.oneCell' = true)
    (hn : (n + m) * bytes ≤ 140737488355328) (hm : n + m ≤ maxLen)
    (h : ∀ v' w', w'.ownsRow w0.heap.size E size v' (n + m) (xs ++ cs.toList) → w.grownBy w' v.ownBlock → Below w0.heap.size w0 w' → K (a.put o.dst v') w') :
    if Region.wanted o (yielded ops a.tmps) = true then Oper.wp P o a (w.alloc (.cells cs E)).drew K Q else F := by
  have hw : Region.wanted o (yielded ops a.tmps) = true := by simp [Region.wanted, hgd]
  rw [if_pos hw]
  obtain ⟨i, hi, hz, hsz, hby⟩ := hT.inf
  have hzs := hT.zs
  have hown' : (w.alloc (.cells cs E)).drew.ownsRow w0.heap.size E size v n xs := hown.alloc _
  have hbase := hbel.size
  refine wp_append_own _ s x T ho w0.heap.size E i z size bytes hT.und hi hz hsz hby hzs hT.pos v n xs hs hown' ⟨w.heap.size, 0, none⟩ m m cs.toList hx (by simp [hcs]) ?_ h1 hm hn (by show w0.heap.size ≤ (w.heap.push _).size; simp; omega) ?_
  · intro j u hj
    have hadd : (⟨w.heap.size, 0, none⟩ : Addr).add j = ⟨w.heap.size, j, none⟩ := by unfold Addr.add; split <;> simp_all
    have hcell : (w.alloc (.cells cs E)).cell? ⟨w.heap.size, j, none⟩ = some u := by
      rw [World.cell?_alloc_at (hn := rfl)]
      simpa using hj
    rw [hadd]
    exact hcell
  · intro v' w' hv' hg _
    have hg0 : w.grownBy (w.alloc (.cells cs E)).drew v.ownBlock := grownBy_drew (World.grownBy_alloc _ _ _)
    have hgr : w.grownBy w' v.ownBlock := grownBy_trans hg0 hg
    exact h v' w' hv' hgr (hbel.trans (below_of_grown hgr hbase (fun k hk => (hown.lt k hk).1)))
end Go.Proofs.YtpdmdfkcaabnaaaGreat
