/- append of a literal of one int, wherever it lies, at a step of a region that draws. No condition. -/
import Derived.Test.YtapapnaljjnhnaaOwnI
namespace Go.Proofs.Ytapapnaljjnhnaa
open Go.RowKit
set_option linter.unusedVariables false
set_option linter.unusedSimpArgs false
theorem step_app_lit {P : Program} {T E : TypeId} {z : Value} {bytes : Nat} (hT : SlT P T E z 1 bytes) {w0 w : World} {v : Value} {l : List Int} {f : List Nat} {ops : Array Oper} {o : Oper} {a : Act} {K : Act → World → Prop} {Q : Exit → Act → World → Prop} {F : Prop}
    (hgd : o.guard = none) (s x : Operand) (ho : o.op = .call { callee := .builtin .append, args := #[s, x], argTypes := #[T, T] })
    (h : grR E 1 intR w0.heap.size w v l f) (hbel : Below w0.heap.size w0 w) (hs : a.eval s = v)
    (n : Nat) (d : Int) (hd : I64 d) (hx : a.eval x = .slice (some ⟨n, 0, none⟩) 1 1) (hn : w.heap[n]? = some (.cells #[.int .i64 d] E)) (hb : (l.length + 1) * bytes ≤ 140737488355328) (hm : l.length + 1 ≤ maxLen)
    (k : ∀ g cap w' f', grR E 1 intR w0.heap.size w' (.slice (some ⟨g, 0, none⟩) (l.length + 1) cap) (l ++ [d]) f' → Below w0.heap.size w0 w' → w.grownBy w' v.ownBlock → Hid (∀ j ∈ f', j ∈ f ∨ w.heap.size ≤ j) → K (a.put o.dst (.slice (some ⟨g, 0, none⟩) (l.length + 1) cap)) w') :
    if Region.wanted o (yielded ops a.tmps) = true then Oper.wp P o a w K Q else F := by
  obtain ⟨i, hi, hz, hsz, hby⟩ := hT.inf
  obtain ⟨rows, fs, ha, hl, hown, rfl, hfr⟩ := h
  have hlt := own_lt hown
  refine step_append_lies _ hgd s x T ho w0.heap.size E i z 1 bytes hT.und hi hz hsz hby hT.zs hT.pos v l.length rows.flatten hs hown ⟨n, 0, none⟩ 1 1 [.int .i64 d] hx (by simp)
    (World.news_of_block hn) (by simp [Value.oneCell']) (by omega) hm hb hbel.size w.heap.size rfl ?_
  intro g cap w' h2 h3 h4 h5
  obtain ⟨f', hf', hmem⟩ := gr_mk good_int ha hl hown hfr (show intR w [.int .i64 d] d [] from ⟨rfl, rfl, hd⟩) (by simp) (Fresh.nil _) (by simp) (Below.refl _ _) h3 h2 h4 (Nat.le_refl _)
  refine k g cap w' f' hf' (hbel.trans (below_of_grown h3 hbel.size fun k hk => (hlt k hk).1)) h3 (Lib.hid fun j hj => ?_)
  rcases hmem j hj with h | h | h
  · exact .inl h
  · cases h
  · exact .inr (by omega)
theorem heap_al2 {w : World} {o o' : Obj} {n : Nat} (h : w.heap[n]? = some o) : (w.alloc o').heap[n]? = some o := by
  obtain ⟨h1, h2⟩ := Array.getElem?_eq_some_iff.1 h
  show (w.heap.push o')[n]? = some o
  rw [Array.getElem?_push_lt h1, h2]
theorem heap_at {w : World} {o : Obj} {n : Nat} (h : w.heap.size = n) : (w.alloc o).heap[n]? = some o := by subst h; exact heap_alloc_new w _
theorem heap_grown {w w' : World} {r : Option Nat} {n : Nat} {o : Obj} (h : w.heap[n]? = some o) (hg : w.grownBy w' r) (hne : some n ≠ r) : w'.heap[n]? = some o := by
  obtain ⟨h1, _⟩ := Array.getElem?_eq_some_iff.1 h
  exact (hg.block n h1 hne).trans h
end Go.Proofs.Ytapapnaljjnhnaa
