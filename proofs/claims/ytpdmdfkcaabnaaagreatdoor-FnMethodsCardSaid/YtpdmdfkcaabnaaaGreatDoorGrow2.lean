/- append of one element, with what is told of the blocks. No condition. -/
import Derived.Test.YtpdmdfkcaabnaaaGreatDoorMB
import Derived.Test.YtpdmdfkcaabnaaaGreatDoorMA
namespace Go.Proofs.YtpdmdfkcaabnaaaGreatDoor
open Go.RowKit
set_option linter.unusedVariables false
set_option linter.unusedSimpArgs false
/-- append of one element, with what is told of the blocks. -/
theorem wpList_gr2 {α : Type} {E : TypeId} {sz : Nat} {R : Rd α} {w : World} {v : Value} {l : List α} {f : List Nat} {P : Program} {T : TypeId} {z : Value} {bytes : Nat} (hT : SlT P T E z sz bytes) (hR : Good R) {w0 : World} {ops : Array Oper} {rest : List Oper} {o : Oper} {a : Act} {Q : Exit → Act → World → Prop}
    (hgd : o.guard = none) (s x : Operand) (ho : o.op = .call { callee := .builtin .append, args := #[s, x], argTypes := #[T, T] })
    (h : grR E sz R w0.heap.size w v l f) (hbel : Below w0.heap.size w0 w) (hs : a.eval s = v)
    (cs : Array Value) (d : α) (fx : List Nat) (hd : R w cs.toList d fx) (hcs : cs.size = sz) (hfx : Fresh w0.heap.size fx) (hdis : ∀ g ∈ fx, g ∉ f)
    (H : Nat) (hH : w.heap.size = H) (hx : a.eval x = .slice (some ⟨H, 0, none⟩) 1 1) (h1 : ∀ u ∈ cs.toList, u.oneCell' = true) (hn : (l.length + 1) * bytes ≤ 140737488355328) (hm : l.length + 1 ≤ maxLen)
    (k : ∀ g cap w' f', grR E sz R w0.heap.size w' (.slice (some ⟨g, 0, none⟩) (l.length + 1) cap) (l ++ [d]) f' → Below w0.heap.size w0 w' → w.grownBy w' v.ownBlock → Hid (v.ownBlock = some g ∨ w.heap.size ≤ g) → Hid (∀ j ∈ f', j ∈ f ∨ j ∈ fx ∨ w.heap.size ≤ j) → wpList P ops Q rest (a.put o.dst (.slice (some ⟨g, 0, none⟩) (l.length + 1) cap)) w') :
    wpList P ops Q (o :: rest) a (w.alloc (.cells cs E)) := by
  subst hH
  obtain ⟨i, hi, hz, hsz, hby⟩ := hT.inf
  obtain ⟨rows, fs, ha, hl, hown, rfl, hfr⟩ := h
  have hown1 : (w.alloc (.cells cs E)).ownsRow w0.heap.size E sz v l.length rows.flatten := hown.alloc _
  have hw1 : Below w.heap.size w (w.alloc (.cells cs E)) := ba (Below.refl _ _)
  have hlt := own_lt hown
  refine wpList_append_lies _ hgd s x T ho w0.heap.size E i z sz bytes hT.und hi hz hsz hby hT.zs hT.pos v l.length rows.flatten hs hown1 ⟨w.heap.size, 0, none⟩ 1 1 cs.toList hx (by simp [hcs])
    (World.news_of_block (heap_alloc_new w _)) h1 (by omega) hm hn (by simp; have := hbel.size; omega) (w.heap.size + 1) (by simp) ?_
  intro g cap w' h2 h3 h4 h5
  obtain ⟨f', hf', hsub⟩ := gr_mk hR ha hl hown hfr hd (by simp [hcs]) hfx hdis hw1 h3 h2 h4 (by omega)
  refine k g cap w' f' hf' (hbel.trans (below_of_grown (grownBy_trans (World.grownBy_alloc _ _ _) h3) hbel.size fun k hk => (hlt k hk).1)) (grownBy_trans (World.grownBy_alloc _ _ _) h3) (show _ ∨ _ from ?_) (show ∀ j ∈ f', _ from fun j hj => ?_)
  · rcases h4 with h | h
    · exact .inl h
    · exact .inr (by omega)
  · rcases hsub j hj with h | h | h
    · exact .inl h
    · exact .inr (.inl h)
    · exact .inr (.inr (by omega))
end Go.Proofs.YtpdmdfkcaabnaaaGreatDoor
