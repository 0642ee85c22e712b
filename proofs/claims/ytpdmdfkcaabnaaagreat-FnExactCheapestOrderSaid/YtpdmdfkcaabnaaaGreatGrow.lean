/- Slices of data that the call itself makes, one element behind the other. Over any program; no condition. -/
import Derived.Test.YtpdmdfkcaabnaaaGreatFacts0
import Derived.Deep.AppendLies
import Derived.Deep.RegionLaw
namespace Go.Proofs.YtpdmdfkcaabnaaaGreat
open Go.RowKit
set_option linter.unusedVariables false
set_option linter.unusedSimpArgs false
/-- A slice of the call's own (all its blocks lie from B on, none twice) that reads as a list. -/
def grR {α : Type} (E : TypeId) (sz : Nat) (R : Rd α) (B : Nat) (w : World) (v : Value) (l : List α) (f : List Nat) : Prop :=
  ∃ rows fs, All R w rows l fs ∧ (∀ c ∈ rows, c.length = sz) ∧ w.ownsRow B E sz v l.length rows.flatten ∧ f = v.ownBlock.toList ++ fs.flatten ∧ Fresh B f
theorem own_row {w : World} {B : Nat} {E : TypeId} {sz : Nat} {v : Value} {n : Nat} {xs : List Value} (h : w.ownsRow B E sz v n xs) : Row w E sz v n xs v.ownBlock := by
  obtain ⟨o, h1, rfl⟩ := Row.of_own h; exact h1
theorem own_lt {w : World} {B : Nat} {E : TypeId} {sz : Nat} {v : Value} {n : Nat} {xs : List Value} (h : w.ownsRow B E sz v n xs) : ∀ g, v.ownBlock = some g → B ≤ g ∧ g < w.heap.size := by
  intro g hg
  rcases h.2 with ⟨rfl, _⟩ | ⟨g', cap, cur, rfl, hb, hh, _⟩
  · simp [Value.ownBlock] at hg
  · simp [Value.ownBlock] at hg
    subst hg
    exact ⟨hb, (Array.getElem?_eq_some_iff.1 hh).1⟩
section
variable {α : Type} {E : TypeId} {sz : Nat} {R : Rd α} {B : Nat} {w w' : World} {v : Value} {l : List α} {f : List Nat}
theorem grR.sl (h : grR E sz R B w v l f) : slR E sz R w v l f := by
  obtain ⟨rows, fs, ha, hl, ho, rfl, _⟩ := h
  exact ⟨rows, fs, v.ownBlock, ha, hl, own_row ho, rfl⟩
theorem grR.fresh (h : grR E sz R B w v l f) : Fresh B f := by obtain ⟨_, _, _, _, _, _, h⟩ := h; exact h
theorem grR.frame (hR : Good R) (h : grR E sz R B w v l f) (hf : ∀ g ∈ f, w'.heap[g]? = w.heap[g]?) : grR E sz R B w' v l f := by
  obtain ⟨rows, fs, ha, hl, ho, rfl, hfr⟩ := h
  refine ⟨rows, fs, ha.frame hR fun g hg => hf g (by rw [List.mem_append]; exact .inr hg), hl, ⟨ho.1, ?_⟩, rfl, hfr⟩
  rcases ho.2 with h0 | ⟨g, cap, cur, rfl, hb, hh, r⟩
  · exact .inl h0
  · exact .inr ⟨g, cap, cur, rfl, hb, (hf g (by simp [Value.ownBlock])).trans hh, r⟩
theorem grR.lt (hR : Good R) (h : grR E sz R B w v l f) : ∀ g ∈ f, g < w.heap.size := h.sl.lt hR
theorem grR.below' (hR : Good R) (h : grR E sz R B w v l f) (hb : Below w.heap.size w w') : grR E sz R B w' v l f := h.frame hR fun g hg => hb.block g (h.lt hR g hg)
/-- An empty literal. -/
theorem grR.lit (R : Rd α) (hB : B ≤ w.heap.size) (hsz : sz ≤ sz) : grR E sz R B (w.alloc (.cells #[] E)) (.slice (some ⟨w.heap.size, 0, none⟩) 0 0) [] [w.heap.size] := by
  refine ⟨[], [], .nil, by simp, ?_, by simp [Value.ownBlock], ⟨by simp, by simpa using hB⟩⟩
  exact World.ownsRow_lit _ _ _ hB (by simp) (by simp)
theorem grR.nilv (R : Rd α) : grR E sz R B w (.slice none 0 0) [] [] := by
  refine ⟨[], [], .nil, by simp, World.ownsRow_nil w B E sz, by simp [Value.ownBlock], Fresh.nil _⟩
/-- One element is appended: from the row's law to the data. -/
theorem gr_mk (hR : Good R) {rows : List (List Value)} {fs : List (List Nat)} {c : List Value} {x : α} {fx : List Nat} {H g cap : Nat} (ha : All R w rows l fs) (hl : ∀ c ∈ rows, c.length = sz)
    (hown : w.ownsRow B E sz v l.length rows.flatten) (hfr : Fresh B (v.ownBlock.toList ++ fs.flatten)) (hx : R w c x fx) (hc : c.length = sz) (hfx : Fresh B fx) (hd : ∀ g ∈ fx, g ∉ v.ownBlock.toList ++ fs.flatten)
    {w1 : World} (hw1 : Below w.heap.size w w1) (hg : w1.grownBy w' v.ownBlock) (hown' : w'.ownsRow B E sz (.slice (some ⟨g, 0, none⟩) (l.length + 1) cap) (l.length + 1) (rows.flatten ++ c)) (hat : v.ownBlock = some g ∨ g = H) (hH : w.heap.size ≤ H) :
    ∃ f', grR E sz R B w' (.slice (some ⟨g, 0, none⟩) (l.length + 1) cap) (l ++ [x]) f' ∧ (∀ k ∈ f', k ∈ v.ownBlock.toList ++ fs.flatten ∨ k ∈ fx ∨ k = H) := by
  have hlt1 := ha.lt hR
  have hlt2 := hR.lt hx
  have hnd := List.nodup_append.1 hfr.1
  have hkeep : ∀ k, k < w.heap.size → v.ownBlock ≠ some k → w'.heap[k]? = w.heap[k]? := fun k hk hne => (hg.block k (Nat.lt_of_lt_of_le hk hw1.size) (fun e => hne e.symm)).trans (hw1.block k hk)
  have h1 : All R w' rows l fs := ha.frame hR fun k hk => hkeep k (hlt1 k hk) (fun e => hnd.2.2 k (by simp [e]) k hk rfl)
  have h2 : R w' c x fx := hR.frame hx fun k hk => hkeep k (hlt2 k hk) (fun e => hd k hk (by simp [e]))
  have hB := own_lt hown'
  have hgB := (hB g (by simp [Value.ownBlock])).1
  have hgl : g ∉ fs.flatten ∧ g ∉ fx := by
    rcases hat with e | e
    · exact ⟨fun hm => hnd.2.2 g (by simp [e]) g hm rfl, fun hm => hd g hm (by simp [e])⟩
    · subst e
      exact ⟨fun hm => by have := hlt1 _ hm; omega, fun hm => by have := hlt2 _ hm; omega⟩
  refine ⟨g :: (fs ++ [fx]).flatten, ⟨rows ++ [c], fs ++ [fx], h1.snoc h2, ?_, ?_, by simp [Value.ownBlock], ?_⟩, ?_⟩
  · intro c' hc'
    rw [List.mem_append] at hc'
    rcases hc' with h | h
    · exact hl c' h
    · rw [List.mem_singleton.1 h]; exact hc
  · have e : (rows ++ [c]).flatten = rows.flatten ++ c := by simp
    rw [e, List.length_append]
    exact hown'
  · have e : (fs ++ [fx]).flatten = fs.flatten ++ fx := by simp
    rw [e]
    refine ⟨List.nodup_cons.2 ⟨?_, List.nodup_append.2 ⟨hnd.2.1, hfx.1, fun a ha b hb e => ?_⟩⟩, fun k hk => ?_⟩
    · rw [List.mem_append]
      rintro (h | h)
      · exact hgl.1 h
      · exact hgl.2 h
    · subst e
      exact hd a hb (by rw [List.mem_append]; exact .inr ha)
    · rcases List.mem_cons.1 hk with rfl | hk
      · exact hgB
      · rw [List.mem_append] at hk
        rcases hk with hk | hk
        · exact hfr.2 k (by rw [List.mem_append]; exact .inr hk)
        · exact hfx.2 k hk
  · intro k hk
    rcases List.mem_cons.1 hk with rfl | hk
    · rcases hat with e | e
      · exact .inl (by simp [e])
      · exact .inr (.inr e)
    · have e : (fs ++ [fx]).flatten = fs.flatten ++ fx := by simp
      rw [e, List.mem_append] at hk
      rcases hk with hk | hk
      · exact .inl (by rw [List.mem_append]; exact .inr hk)
      · exact .inr (.inl hk)
/-- append of one element that the walk has just laid in a block of its own: at a plain region's list. -/
theorem wpList_gr {P : Program} {T : TypeId} {z : Value} {bytes : Nat} (hT : SlT P T E z sz bytes) (hR : Good R) {w0 : World} {ops : Array Oper} {rest : List Oper} {o : Oper} {a : Act} {Q : Exit → Act → World → Prop}
    (hgd : o.guard = none) (s x : Operand) (ho : o.op = .call { callee := .builtin .append, args := #[s, x], argTypes := #[T, T] })
    (h : grR E sz R w0.heap.size w v l f) (hbel : Below w0.heap.size w0 w) (hs : a.eval s = v)
    (cs : Array Value) (d : α) (fx : List Nat) (hd : R w cs.toList d fx) (hcs : cs.size = sz) (hfx : Fresh w0.heap.size fx) (hdis : ∀ g ∈ fx, g ∉ f)
    (hx : a.eval x = .slice (some ⟨w.heap.size, 0, none⟩) 1 1) (h1 : ∀ u ∈ cs.toList, u.oneCell' = true) (hn : (l.length + 1) * bytes ≤ 140737488355328) (hm : l.length + 1 ≤ maxLen)
    (k : ∀ g cap w' f', grR E sz R w0.heap.size w' (.slice (some ⟨g, 0, none⟩) (l.length + 1) cap) (l ++ [d]) f' → Below w0.heap.size w0 w' → w.grownBy w' v.ownBlock → wpList P ops Q rest (a.put o.dst (.slice (some ⟨g, 0, none⟩) (l.length + 1) cap)) w') :
    wpList P ops Q (o :: rest) a (w.alloc (.cells cs E)) := by
  obtain ⟨i, hi, hz, hsz, hby⟩ := hT.inf
  obtain ⟨rows, fs, ha, hl, hown, rfl, hfr⟩ := h
  have hown1 : (w.alloc (.cells cs E)).ownsRow w0.heap.size E sz v l.length rows.flatten := hown.alloc _
  have hw1 : Below w.heap.size w (w.alloc (.cells cs E)) := ba (Below.refl _ _)
  have hlt := own_lt hown
  refine wpList_append_lies _ hgd s x T ho w0.heap.size E i z sz bytes hT.und hi hz hsz hby hT.zs hT.pos v l.length rows.flatten hs hown1 ⟨w.heap.size, 0, none⟩ 1 1 cs.toList hx (by simp [hcs])
    (World.news_of_block (heap_alloc_new w _)) h1 (by omega) hm hn (by simp; have := hbel.size; omega) (w.heap.size + 1) (by simp) ?_
  intro g cap w' h2 h3 h4 h5
  obtain ⟨f', hf', _⟩ := gr_mk hR ha hl hown hfr hd (by simp [hcs]) hfx hdis hw1 h3 h2 h4 (by omega)
  exact k g cap w' f' hf' (hbel.trans (below_of_grown (grownBy_trans (World.grownBy_alloc _ _ _) h3) hbel.size fun k hk => (hlt k hk).1)) (grownBy_trans (World.grownBy_alloc _ _ _) h3)
/-- .. at a step of a region that draws its order. -/
theorem step_gr {P : Program} {T : TypeId} {z : Value} {bytes : Nat} (hT : SlT P T E z sz bytes) (hR : Good R) {w0 : World} {ops : Array Oper} {o : Oper} {a : Act} {K : Act → World → Prop} {Q : Exit → Act → World → Prop} {F : Prop}
    (hgd : o.guard = none) (s x : Operand) (ho : o.op = .call { callee := .builtin .append, args := #[s, x], argTypes := #[T, T] })
    (h : grR E sz R w0.heap.size w v l f) (hbel : Below w0.heap.size w0 w) (hs : a.eval s = v)
    (cs : Array Value) (d : α) (fx : List Nat) (hd : R w cs.toList d fx) (hcs : cs.size = sz) (hfx : Fresh w0.heap.size fx) (hdis : ∀ g ∈ fx, g ∉ f)
    (hx : a.eval x = .slice (some ⟨w.heap.size, 0, none⟩) 1 1) (h1 : ∀ u ∈ cs.toList, u.oneCell' = true) (hn : (l.length + 1) * bytes ≤ 140737488355328) (hm : l.length + 1 ≤ maxLen)
    (k : ∀ g cap w' f', grR E sz R w0.heap.size w' (.slice (some ⟨g, 0, none⟩) (l.length + 1) cap) (l ++ [d]) f' → Below w0.heap.size w0 w' → w.grownBy w' v.ownBlock → K (a.put o.dst (.slice (some ⟨g, 0, none⟩) (l.length + 1) cap)) w') :
    if Region.wanted o (yielded ops a.tmps) = true then Oper.wp P o a (w.alloc (.cells cs E)) K Q else F := by
  obtain ⟨i, hi, hz, hsz, hby⟩ := hT.inf
  obtain ⟨rows, fs, ha, hl, hown, rfl, hfr⟩ := h
  have hown1 : (w.alloc (.cells cs E)).ownsRow w0.heap.size E sz v l.length rows.flatten := hown.alloc _
  have hw1 : Below w.heap.size w (w.alloc (.cells cs E)) := ba (Below.refl _ _)
  have hlt := own_lt hown
  refine step_append_lies _ hgd s x T ho w0.heap.size E i z sz bytes hT.und hi hz hsz hby hT.zs hT.pos v l.length rows.flatten hs hown1 ⟨w.heap.size, 0, none⟩ 1 1 cs.toList hx (by simp [hcs])
    (World.news_of_block (heap_alloc_new w _)) h1 (by omega) hm hn (by simp; have := hbel.size; omega) (w.heap.size + 1) (by simp) ?_
  intro g cap w' h2 h3 h4 h5
  obtain ⟨f', hf', _⟩ := gr_mk hR ha hl hown hfr hd (by simp [hcs]) hfx hdis hw1 h3 h2 h4 (by omega)
  exact k g cap w' f' hf' (hbel.trans (below_of_grown (grownBy_trans (World.grownBy_alloc _ _ _) h3) hbel.size fun k hk => (hlt k hk).1)) (grownBy_trans (World.grownBy_alloc _ _ _) h3)
end
theorem grR.less {α : Type} {E : TypeId} {sz : Nat} {R : Rd α} {B C : Nat} {w : World} {v : Value} {l : List α} {f : List Nat} (h : grR E sz R B w v l f) (hC : C ≤ B) : grR E sz R C w v l f := by
  obtain ⟨rows, fs, ha, hl, ho, rfl, hfr⟩ := h
  refine ⟨rows, fs, ha, hl, ⟨ho.1, ?_⟩, rfl, hfr.mono hC⟩
  rcases ho.2 with h0 | ⟨g, cap, cur, rfl, hb, hh, r⟩
  · exact .inl h0
  · exact .inr ⟨g, cap, cur, rfl, Nat.le_trans hC hb, hh, r⟩
end Go.Proofs.YtpdmdfkcaabnaaaGreat
