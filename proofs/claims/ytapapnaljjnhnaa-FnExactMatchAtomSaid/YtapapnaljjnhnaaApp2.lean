/- A region in which both rows of a box are appended to and stored back, in whatever order: its invariant. Over any program; no condition. -/
import Derived.Test.YtapapnaljjnhnaaStepL
namespace Go.Proofs.Ytapapnaljjnhnaa
open Go.RowKit
set_option linter.unusedVariables false
set_option linter.unusedSimpArgs false
/-- append of a literal of one int, wherever it lies, at an operation. -/
theorem wp_app_lit {P : Program} {T E : TypeId} {z : Value} {bytes : Nat} (hT : SlT P T E z 1 bytes) {w0 w : World} {v : Value} {l : List Int} {f : List Nat} {o : Oper} {a : Act} {K : Act → World → Prop} {Q : Exit → Act → World → Prop}
    (s x : Operand) (ho : o.op = .call { callee := .builtin .append, args := #[s, x], argTypes := #[T, T] })
    (h : grR E 1 intR w0.heap.size w v l f) (hbel : Below w0.heap.size w0 w) (hs : a.eval s = v)
    (n : Nat) (d : Int) (hd : I64 d) (hx : a.eval x = .slice (some ⟨n, 0, none⟩) 1 1) (hn : w.heap[n]? = some (.cells #[.int .i64 d] E)) (hb : (l.length + 1) * bytes ≤ 140737488355328) (hm : l.length + 1 ≤ maxLen)
    (k : ∀ g cap w' f', grR E 1 intR w0.heap.size w' (.slice (some ⟨g, 0, none⟩) (l.length + 1) cap) (l ++ [d]) f' → Below w0.heap.size w0 w' → w.grownBy w' v.ownBlock → (∀ j ∈ f', j ∈ f ∨ w.heap.size ≤ j) → K (a.put o.dst (.slice (some ⟨g, 0, none⟩) (l.length + 1) cap)) w') :
    o.wp P a w K Q := by
  obtain ⟨i, hi, hz, hsz, hby⟩ := hT.inf
  obtain ⟨rows, fs, ha, hl, hown, rfl, hfr⟩ := h
  have hlt := own_lt hown
  refine wp_append_lies w s x T ho w0.heap.size E i z 1 bytes hT.und hi hz hsz hby hT.zs hT.pos v l.length rows.flatten hs hown ⟨n, 0, none⟩ 1 1 [.int .i64 d] hx (by simp)
    (World.news_of_block hn) (by simp [Value.oneCell']) (by omega) hm hb hbel.size w.heap.size rfl ?_
  intro g cap w' h2 h3 h4 h5
  obtain ⟨f', hf', hmem⟩ := gr_mk good_int ha hl hown hfr (show intR w [.int .i64 d] d [] from ⟨rfl, rfl, hd⟩) (by simp) (Fresh.nil _) (by simp) (Below.refl _ _) h3 h2 h4 (Nat.le_refl _)
  refine k g cap w' f' hf' (hbel.trans (below_of_grown h3 hbel.size fun k hk => (hlt k hk).1)) h3 (fun j hj => ?_)
  rcases hmem j hj with h | h | h
  · exact .inl h
  · cases h
  · exact .inr (by omega)
theorem grR.own_mem {E : TypeId} {B : Nat} {w : World} {v : Value} {l : List Int} {f : List Nat} (h : grR E 1 intR B w v l f) : ∀ j, v.ownBlock = some j → j ∈ f := by
  obtain ⟨_, _, _, _, _, rfl, _⟩ := h
  intro j hj
  simp [hj]
def LitAt (E : TypeId) (w : World) (v : Value) (t : Int) (f1 f2 : List Nat) : Prop := ∃ n, v = .slice (some ⟨n, 0, none⟩) 1 1 ∧ w.heap[n]? = some (.cells #[.int .i64 t] E) ∧ n ∉ f1 ∧ n ∉ f2
/-- The two rows in the midst of the region, and the literals that wait for them. -/
structure Rows2 (E : TypeId) (B N : Nat) (w8 : World) (v1 v2 : Value) (c1 c2 : List Int) (g1 g2 : List Nat) (t x : Int) (L : Array Bool) (a : Act) (w : World) (r1 : Value) (l1 : List Int) (f1 : List Nat) (r2 : Value) (l2 : List Int) (f2 : List Nat) : Prop where
  h1 : grR E 1 intR B w r1 l1 f1
  h2 : grR E 1 intR B w r2 l2 f2
  s1 : ∀ j ∈ f1, j ∈ g1 ∨ w8.heap.size ≤ j
  s2 : ∀ j ∈ f2, j ∈ g2 ∨ w8.heap.size ≤ j
  dis : ∀ j ∈ f1, j ∉ f2
  n1 : L.getD 4 false = false → r1 = v1 ∧ l1 = c1
  y1 : L.getD 4 false = true → a.eval (.tmp 57) = r1 ∧ l1 = c1 ++ [t]
  n2 : L.getD 13 false = false → r2 = v2 ∧ l2 = c2
  y2 : L.getD 13 false = true → a.eval (.tmp 66) = r2 ∧ l2 = c2 ++ [x]
  k1 : L.getD 3 false = true → L.getD 4 false = false → LitAt E w (a.eval (.tmp 56)) t f1 f2
  k2 : L.getD 12 false = true → L.getD 13 false = false → LitAt E w (a.eval (.tmp 65)) x f1 f2
section
variable {E : TypeId} {B N : Nat} {w8 : World} {v1 v2 : Value} {c1 c2 : List Int} {g1 g2 : List Nat} {t x : Int} {L : Array Bool} {a : Act} {w w' : World} {r1 : Value} {l1 : List Int} {f1 : List Nat} {r2 : Value} {l2 : List Int} {f2 : List Nat}
theorem LitAt.al {v : Value} (h : LitAt E w v t f1 f2) (o : Obj) : LitAt E (w.alloc o) v t f1 f2 := by
  obtain ⟨n, h1, h2, h3⟩ := h
  exact ⟨n, h1, heap_al2 h2, h3⟩
theorem Rows2.put (h : Rows2 E B N w8 v1 v2 c1 c2 g1 g2 t x L a w r1 l1 f1 r2 l2 f2) (hsz : L.size = 18) (i d : Nat) (v : Value) (hi : i ≠ 3 ∧ i ≠ 4 ∧ i ≠ 12 ∧ i ≠ 13 ∧ i < 18) (hd : d ≠ 56 ∧ d ≠ 57 ∧ d ≠ 65 ∧ d ≠ 66) :
    Rows2 E B N w8 v1 v2 c1 c2 g1 g2 t x (L.setIfInBounds i true) (a.put (some d) v) w r1 l1 f1 r2 l2 f2 := by
  have hg : ∀ j, j ≠ i → (L.setIfInBounds i true).getD j false = L.getD j false := fun j hj => by rw [getD_set (by omega), if_neg (Ne.symm hj)]
  have he : ∀ (s : Nat), s ≠ d → (a.put (some d) v).eval (.tmp s) = a.eval (.tmp s) := fun s hs => eval_other hs
  refine ⟨h.h1, h.h2, h.s1, h.s2, h.dis, ?_, ?_, ?_, ?_, ?_, ?_⟩
  · rw [hg 4 (by omega)]; exact h.n1
  · rw [hg 4 (by omega), he 57 (by omega)]; exact h.y1
  · rw [hg 13 (by omega)]; exact h.n2
  · rw [hg 13 (by omega), he 66 (by omega)]; exact h.y2
  · rw [hg 3 (by omega), hg 4 (by omega), he 56 (by omega)]; exact h.k1
  · rw [hg 12 (by omega), hg 13 (by omega), he 65 (by omega)]; exact h.k2
theorem Rows2.lit1 (h : Rows2 E B N w8 v1 v2 c1 c2 g1 g2 t x L a w r1 l1 f1 r2 l2 f2) (hsz : L.size = 18) (htz : 56 < a.tmps.size) :
    Rows2 E B N w8 v1 v2 c1 c2 g1 g2 t x (L.setIfInBounds 3 true) (a.put (some 56) (.slice (some ⟨w.heap.size, 0, none⟩) 1 1)) (w.alloc (.cells #[.int .i64 t] E)) r1 l1 f1 r2 l2 f2 := by
  have hg : ∀ j, j ≠ 3 → (L.setIfInBounds 3 true).getD j false = L.getD j false := fun j hj => by rw [getD_set (by omega), if_neg (Ne.symm hj)]
  have he : ∀ (v : Value) (s : Nat), s ≠ 56 → (a.put (some 56) v).eval (.tmp s) = a.eval (.tmp s) := fun v s hs => eval_other hs
  have hn1 : w.heap.size ∉ f1 := fun hm => by have := h.h1.lt good_int _ hm; omega
  have hn2 : w.heap.size ∉ f2 := fun hm => by have := h.h2.lt good_int _ hm; omega
  refine ⟨h.h1.below' good_int (ba (Below.refl _ _)), h.h2.below' good_int (ba (Below.refl _ _)), h.s1, h.s2, h.dis, ?_, ?_, ?_, ?_, ?_, ?_⟩
  · rw [hg 4 (by omega)]; exact h.n1
  · rw [hg 4 (by omega), he _ 57 (by omega)]; exact h.y1
  · rw [hg 13 (by omega)]; exact h.n2
  · rw [hg 13 (by omega), he _ 66 (by omega)]; exact h.y2
  · intro _ _
    exact ⟨w.heap.size, eval_same htz, heap_alloc_new w _, hn1, hn2⟩
  · rw [hg 12 (by omega), hg 13 (by omega), he _ 65 (by omega)]; exact fun a b => (h.k2 a b).al _
theorem Rows2.lit2 (h : Rows2 E B N w8 v1 v2 c1 c2 g1 g2 t x L a w r1 l1 f1 r2 l2 f2) (hsz : L.size = 18) (htz : 65 < a.tmps.size) :
    Rows2 E B N w8 v1 v2 c1 c2 g1 g2 t x (L.setIfInBounds 12 true) (a.put (some 65) (.slice (some ⟨w.heap.size, 0, none⟩) 1 1)) (w.alloc (.cells #[.int .i64 x] E)) r1 l1 f1 r2 l2 f2 := by
  have hg : ∀ j, j ≠ 12 → (L.setIfInBounds 12 true).getD j false = L.getD j false := fun j hj => by rw [getD_set (by omega), if_neg (Ne.symm hj)]
  have he : ∀ (v : Value) (s : Nat), s ≠ 65 → (a.put (some 65) v).eval (.tmp s) = a.eval (.tmp s) := fun v s hs => eval_other hs
  have hn1 : w.heap.size ∉ f1 := fun hm => by have := h.h1.lt good_int _ hm; omega
  have hn2 : w.heap.size ∉ f2 := fun hm => by have := h.h2.lt good_int _ hm; omega
  refine ⟨h.h1.below' good_int (ba (Below.refl _ _)), h.h2.below' good_int (ba (Below.refl _ _)), h.s1, h.s2, h.dis, ?_, ?_, ?_, ?_, ?_, ?_⟩
  · rw [hg 4 (by omega)]; exact h.n1
  · rw [hg 4 (by omega), he _ 57 (by omega)]; exact h.y1
  · rw [hg 13 (by omega)]; exact h.n2
  · rw [hg 13 (by omega), he _ 66 (by omega)]; exact h.y2
  · rw [hg 3 (by omega), hg 4 (by omega), he _ 56 (by omega)]; exact fun a b => (h.k1 a b).al _
  · intro _ _
    exact ⟨w.heap.size, eval_same htz, heap_alloc_new w _, hn1, hn2⟩
theorem LitAt.grown {v : Value} {f' : List Nat} {o : Option Nat} (h : LitAt E w v t f1 f2) (hg : w.grownBy w' o) (ho : ∀ j, o = some j → j ∈ f1 ∨ j ∈ f2) (hf : ∀ j ∈ f', (j ∈ f1 ∨ j ∈ f2) ∨ w.heap.size ≤ j) : (∃ n, v = .slice (some ⟨n, 0, none⟩) 1 1 ∧ w'.heap[n]? = some (.cells #[.int .i64 t] E) ∧ n ∉ f1 ∧ n ∉ f2 ∧ n ∉ f') := by
  obtain ⟨n, h1, h2, h3, h4⟩ := h
  have hlt : n < w.heap.size := (Array.getElem?_eq_some_iff.1 h2).1
  refine ⟨n, h1, heap_grown h2 hg ?_, h3, h4, ?_⟩
  · intro e
    rcases ho n e.symm with h | h
    · exact h3 h
    · exact h4 h
  · intro hm
    rcases hf n hm with (h | h) | h
    · exact h3 h
    · exact h4 h
    · omega
theorem Rows2.app1 (h : Rows2 E B N w8 v1 v2 c1 c2 g1 g2 t x L a w r1 l1 f1 r2 l2 f2) (hsz : L.size = 18) (htz : 57 < a.tmps.size) (hoff : L.getD 4 false = false) (hw8 : w8.heap.size ≤ w.heap.size)
    {v' : Value} {f' : List Nat} (h' : grR E 1 intR B w' v' (l1 ++ [t]) f') (hg' : w.grownBy w' r1.ownBlock) (hf' : ∀ j ∈ f', j ∈ f1 ∨ w.heap.size ≤ j) :
    Rows2 E B N w8 v1 v2 c1 c2 g1 g2 t x (L.setIfInBounds 4 true) (a.put (some 57) v') w' v' (l1 ++ [t]) f' r2 l2 f2 := by
  have hg : ∀ j, j ≠ 4 → (L.setIfInBounds 4 true).getD j false = L.getD j false := fun j hj => by rw [getD_set (by omega), if_neg (Ne.symm hj)]
  have he : ∀ (s : Nat), s ≠ 57 → (a.put (some 57) v').eval (.tmp s) = a.eval (.tmp s) := fun s hs => eval_other hs
  have h4 : (L.setIfInBounds 4 true).getD 4 false = true := by rw [getD_set (by omega)]; rfl
  have hown := h.h1.own_mem
  refine ⟨h', h.h2.frame good_int (fun j hj => hg'.block j (h.h2.lt good_int j hj) (fun e => h.dis j (hown j e.symm) hj)), ?_, h.s2, ?_, ?_, ?_, ?_, ?_, ?_, ?_⟩
  · intro j hj
    rcases hf' j hj with h3 | h3
    · exact h.s1 j h3
    · exact .inr (by omega)
  · intro j hj hj2
    rcases hf' j hj with h3 | h3
    · exact h.dis j h3 hj2
    · have := h.h2.lt good_int j hj2; omega
  · intro e; rw [h4] at e; cases e
  · intro _
    exact ⟨eval_same htz, by rw [(h.n1 hoff).2]⟩
  · rw [hg 13 (by omega)]; exact h.n2
  · rw [hg 13 (by omega), he 66 (by omega)]; exact h.y2
  · intro _ e; rw [h4] at e; cases e
  · rw [hg 12 (by omega), hg 13 (by omega), he 65 (by omega)]
    intro e1 e2
    obtain ⟨n, k1, k2, k3, k4, k5⟩ := (h.k2 e1 e2).grown (f' := f') hg' (fun j hj => .inl (hown j hj)) (fun j hj => (hf' j hj).imp .inl id)
    exact ⟨n, k1, k2, k5, k4⟩
theorem Rows2.app2 (h : Rows2 E B N w8 v1 v2 c1 c2 g1 g2 t x L a w r1 l1 f1 r2 l2 f2) (hsz : L.size = 18) (htz : 66 < a.tmps.size) (hoff : L.getD 13 false = false) (hw8 : w8.heap.size ≤ w.heap.size)
    {v' : Value} {f' : List Nat} (h' : grR E 1 intR B w' v' (l2 ++ [x]) f') (hg' : w.grownBy w' r2.ownBlock) (hf' : ∀ j ∈ f', j ∈ f2 ∨ w.heap.size ≤ j) :
    Rows2 E B N w8 v1 v2 c1 c2 g1 g2 t x (L.setIfInBounds 13 true) (a.put (some 66) v') w' r1 l1 f1 v' (l2 ++ [x]) f' := by
  have hg : ∀ j, j ≠ 13 → (L.setIfInBounds 13 true).getD j false = L.getD j false := fun j hj => by rw [getD_set (by omega), if_neg (Ne.symm hj)]
  have he : ∀ (s : Nat), s ≠ 66 → (a.put (some 66) v').eval (.tmp s) = a.eval (.tmp s) := fun s hs => eval_other hs
  have h13 : (L.setIfInBounds 13 true).getD 13 false = true := by rw [getD_set (by omega)]; rfl
  have hown := h.h2.own_mem
  refine ⟨h.h1.frame good_int (fun j hj => hg'.block j (h.h1.lt good_int j hj) (fun e => h.dis j hj (hown j e.symm))), h', h.s1, ?_, ?_, ?_, ?_, ?_, ?_, ?_, ?_⟩
  · intro j hj
    rcases hf' j hj with h3 | h3
    · exact h.s2 j h3
    · exact .inr (by omega)
  · intro j hj hj2
    rcases hf' j hj2 with h3 | h3
    · exact h.dis j hj h3
    · have := h.h1.lt good_int j hj; omega
  · rw [hg 4 (by omega)]; exact h.n1
  · rw [hg 4 (by omega), he 57 (by omega)]; exact h.y1
  · intro e; rw [h13] at e; cases e
  · intro _
    exact ⟨eval_same htz, by rw [(h.n2 hoff).2]⟩
  · rw [hg 3 (by omega), hg 4 (by omega), he 56 (by omega)]
    intro e1 e2
    obtain ⟨n, k1, k2, k3, k4, k5⟩ := (h.k1 e1 e2).grown (f' := f') hg' (fun j hj => .inr (hown j hj)) (fun j hj => (hf' j hj).imp .inr id)
    exact ⟨n, k1, k2, k3, k5⟩
  · intro _ e; rw [h13] at e; cases e
end
def depL : Nat → List Nat
  | 13 => [12] | 12 => [11] | 11 => [10] | 10 => [8, 9] | 8 => [7] | _ => []
/-- The frame: what was there, what does not hang on the order. -/
structure Jc (N : Nat) (a0 : Act) (wx : Nat) (V : Nat → Option Value) (L : Array Bool) (a : Act) : Prop where
  size : L.size = 18
  df : a.defers = []
  tsz : a.tmps.size = N
  old : ∀ s : Nat, s < 53 ∨ 69 ≤ s → a.eval (.tmp s) = a0.eval (.tmp s)
  det : ∀ i v, i ≤ 14 → L.getD i false = true → V i = some v → a.eval (.tmp (i + 53)) = v
  d16 : L.getD 16 false = true → a.eval (.tmp 68) = .pointer (some ⟨wx, 1, none⟩)
  dep : ∀ i : Nat, L.getD i false = true → ∀ j ∈ depL i, L.getD j false = true
theorem dep_set {L : Array Bool} {i : Nat} (h : ∀ i : Nat, L.getD i false = true → ∀ j ∈ depL i, L.getD j false = true) (hi : i < L.size) (hdep : ∀ j ∈ depL i, L.getD j false = true) : ∀ k : Nat, (L.setIfInBounds i true).getD k false = true → ∀ j ∈ depL k, (L.setIfInBounds i true).getD j false = true := by
  intro k hk j hj
  by_cases e : k = i
  · subst e; exact set_on hi (hdep j hj)
  · rw [getD_set hi, if_neg (Ne.symm e)] at hk
    exact set_on hi (h k hk j hj)
theorem Jc.all15 {N : Nat} {a0 : Act} {wx : Nat} {V : Nat → Option Value} {L : Array Bool} {a : Act} (h : Jc N a0 wx V L a) (hl : ∀ i : Nat, i < 7 → L.getD i false = true) (h13 : L.getD 13 false = true) (h14 : L.getD 14 false = true) : ∀ i : Nat, i < 15 → L.getD i false = true := by
  have h12 := h.dep 13 h13 12 (by simp [depL])
  have h11 := h.dep 12 h12 11 (by simp [depL])
  have h10 := h.dep 11 h11 10 (by simp [depL])
  have h8 := h.dep 10 h10 8 (by simp [depL])
  have h9 := h.dep 10 h10 9 (by simp [depL])
  have h7 := h.dep 8 h8 7 (by simp [depL])
  intro i hi
  by_cases h6 : i < 7
  · exact hl i h6
  · rcases (show i = 7 ∨ i = 8 ∨ i = 9 ∨ i = 10 ∨ i = 11 ∨ i = 12 ∨ i = 13 ∨ i = 14 by omega) with rfl | rfl | rfl | rfl | rfl | rfl | rfl | rfl <;> assumption
theorem Jc.put {N : Nat} {a0 : Act} {wx : Nat} {V : Nat → Option Value} {L : Array Bool} {a : Act} (h : Jc N a0 wx V L a) (hN : 69 ≤ N) (i : Nat) (v : Value) (hi : i ≤ 14) (hV : ∀ u, V i = some u → v = u) (hdep : ∀ j ∈ depL i, L.getD j false = true) : Jc N a0 wx V (L.setIfInBounds i true) (a.put (some (i + 53)) v) := by
  have hsz := h.size
  have htz := h.tsz
  refine ⟨by simp [hsz], h.df, by simp [Act.put, htz], fun s hs => (eval_other (by omega)).trans (h.old s hs), ?_, ?_, dep_set h.dep (by omega) hdep⟩
  · intro j u hj hon hu
    by_cases e : j = i
    · subst e
      rw [eval_same (by omega)]; exact hV u hu
    · rw [getD_set (by omega), if_neg (Ne.symm e)] at hon
      rw [eval_other (by omega)]; exact h.det j u hj hon hu
  · rw [getD_set (by omega), if_neg (by omega), eval_other (by omega)]; exact h.d16
theorem Jc.put16 {N : Nat} {a0 : Act} {wx : Nat} {V : Nat → Option Value} {L : Array Bool} {a : Act} (h : Jc N a0 wx V L a) (hN : 69 ≤ N) : Jc N a0 wx V (L.setIfInBounds 16 true) (a.put (some 68) (.pointer (some ⟨wx, 1, none⟩))) := by
  have hsz := h.size
  have htz := h.tsz
  refine ⟨by simp [hsz], h.df, by simp [Act.put, htz], fun s hs => (eval_other (by omega)).trans (h.old s hs), ?_, ?_, dep_set h.dep (by omega) (by simp [depL])⟩
  · intro j u hj hon hu
    rw [getD_set (by omega), if_neg (by omega)] at hon
    rw [eval_other (by omega)]; exact h.det j u hj hon hu
  · intro _; exact eval_same (by omega)
theorem Jc.on {N : Nat} {a0 : Act} {wx : Nat} {V : Nat → Option Value} {L : Array Bool} {a : Act} (h : Jc N a0 wx V L a) (i : Nat) (hi : 14 < i) (h16 : i ≠ 16) (hi18 : i < 18) (hdep : ∀ j ∈ depL i, L.getD j false = true) : Jc N a0 wx V (L.setIfInBounds i true) a := by
  have hsz := h.size
  refine ⟨by simp [hsz], h.df, h.tsz, h.old, ?_, ?_, dep_set h.dep (by omega) hdep⟩
  · intro j u hj hon hu
    by_cases hi : i < L.size
    · rw [getD_set hi, if_neg (by omega)] at hon
      exact h.det j u hj hon hu
    · have e : L.setIfInBounds i true = L := by simp [Array.setIfInBounds, hi]
      rw [e] at hon
      exact h.det j u hj hon hu
  · by_cases hi : i < L.size
    · rw [getD_set hi, if_neg (by omega)]; exact h.d16
    · have e : L.setIfInBounds i true = L := by simp [Array.setIfInBounds, hi]
      rw [e]; exact h.d16
/-- The whole state: ahead of the stores, or behind the first, or behind both. -/
def J8 (E : TypeId) (N : Nat) (w0 w8 : World) (a0 : Act) (wx : Nat) (V : Nat → Option Value) (v1 v2 : Value) (c1 c2 : List Int) (g1 g2 : List Nat) (t x : Int) (L : Array Bool) (a : Act) (w : World) : Prop :=
  Jc N a0 wx V L a ∧
    ((L.getD 15 false = false ∧ L.getD 17 false = false ∧ Below w0.heap.size w0 w ∧ SX (g1 ++ g2) w8 w ∧ ∃ r1 l1 f1 r2 l2 f2, Rows2 E w0.heap.size N w8 v1 v2 c1 c2 g1 g2 t x L a w r1 l1 f1 r2 l2 f2) ∨
     (L.getD 15 false = true ∧ (∀ i, i < 15 → L.getD i false = true) ∧ ∃ w4 r1 f1 r2 f2, Below w0.heap.size w0 w4 ∧ SX (g1 ++ g2) w8 w4 ∧ grR E 1 intR w0.heap.size w4 r1 (c1 ++ [t]) f1 ∧ grR E 1 intR w0.heap.size w4 r2 (c2 ++ [x]) f2 ∧
       (∀ j ∈ f1, j ∈ g1 ∨ w8.heap.size ≤ j) ∧ (∀ j ∈ f2, j ∈ g2 ∨ w8.heap.size ≤ j) ∧ (∀ j ∈ f1, j ∉ f2) ∧ a.eval (.tmp 66) = r2 ∧
       ((L.getD 17 false = false ∧ w = w4.setCell ⟨wx, 0, none⟩ r1) ∨ (L.getD 17 false = true ∧ w = two2 w4 wx r1 r2))))
section
variable {E : TypeId} {N : Nat} {w0 w8 : World} {a0 : Act} {wx : Nat} {V : Nat → Option Value} {v1 v2 : Value} {c1 c2 : List Int} {g1 g2 : List Nat} {t x : Int} {L : Array Bool} {a : Act} {w w' : World}
theorem J8.pre (h : J8 E N w0 w8 a0 wx V v1 v2 c1 c2 g1 g2 t x L a w) {i : Nat} (hi : i < 15) (hoff : L.getD i false = false) :
    L.getD 15 false = false ∧ L.getD 17 false = false ∧ Below w0.heap.size w0 w ∧ SX (g1 ++ g2) w8 w ∧ ∃ r1 l1 f1 r2 l2 f2, Rows2 E w0.heap.size N w8 v1 v2 c1 c2 g1 g2 t x L a w r1 l1 f1 r2 l2 f2 := by
  rcases h.2 with h | ⟨_, hall, _⟩
  · exact h
  · rw [hall i hi] at hoff; cases hoff
theorem J8.quiet (h : J8 E N w0 w8 a0 wx V v1 v2 c1 c2 g1 g2 t x L a w) (hN : 69 ≤ N) (i : Nat) (hi : i ≤ 14) (hi2 : i ≠ 3 ∧ i ≠ 4 ∧ i ≠ 12 ∧ i ≠ 13) (hoff : L.getD i false = false) (v : Value) (hV : ∀ u, V i = some u → v = u) (hdep : ∀ j ∈ depL i, L.getD j false = true) :
    J8 E N w0 w8 a0 wx V v1 v2 c1 c2 g1 g2 t x (L.setIfInBounds i true) (a.put (some (i + 53)) v) w := by
  have hsz := h.1.size
  obtain ⟨h15, h17, hb, hs, r1, l1, f1, r2, l2, f2, hr⟩ := h.pre (by omega) hoff
  refine ⟨h.1.put hN i v hi hV hdep, .inl ⟨?_, ?_, hb, hs, r1, l1, f1, r2, l2, f2, hr.put hsz i (i + 53) v (by omega) (by omega)⟩⟩
  · rw [getD_set (by omega), if_neg (by omega)]; exact h15
  · rw [getD_set (by omega), if_neg (by omega)]; exact h17
theorem J8.q16 (h : J8 E N w0 w8 a0 wx V v1 v2 c1 c2 g1 g2 t x L a w) (hN : 69 ≤ N) :
    J8 E N w0 w8 a0 wx V v1 v2 c1 c2 g1 g2 t x (L.setIfInBounds 16 true) (a.put (some 68) (.pointer (some ⟨wx, 1, none⟩))) w := by
  have hsz := h.1.size
  have hg : ∀ j, j ≠ 16 → (L.setIfInBounds 16 true).getD j false = L.getD j false := fun j hj => by rw [getD_set (by omega), if_neg (Ne.symm hj)]
  refine ⟨h.1.put16 hN, ?_⟩
  rcases h.2 with ⟨h15, h17, hb, hs, r1, l1, f1, r2, l2, f2, hr⟩ | ⟨h15, hall, w4, r1, f1, r2, f2, k1, k2, k3, k4, k5, k6, k7, k8, k9⟩
  · exact .inl ⟨by rw [hg 15 (by omega)]; exact h15, by rw [hg 17 (by omega)]; exact h17, hb, hs, r1, l1, f1, r2, l2, f2, hr.put hsz 16 68 _ (by omega) (by omega)⟩
  · refine .inr ⟨by rw [hg 15 (by omega)]; exact h15, fun i hi => by rw [hg i (by omega)]; exact hall i hi, w4, r1, f1, r2, f2, k1, k2, k3, k4, k5, k6, k7, (eval_other (by omega)).trans k8, ?_⟩
    rw [hg 17 (by omega)]; exact k9
theorem J8.lit1 (h : J8 E N w0 w8 a0 wx V v1 v2 c1 c2 g1 g2 t x L a w) (hN : 69 ≤ N) (hoff : L.getD 3 false = false) (hV : V 3 = none) :
    J8 E N w0 w8 a0 wx V v1 v2 c1 c2 g1 g2 t x (L.setIfInBounds 3 true) (a.put (some 56) (.slice (some ⟨w.heap.size, 0, none⟩) 1 1)) (w.alloc (.cells #[.int .i64 t] E)) := by
  have hsz := h.1.size
  obtain ⟨h15, h17, hb, hs, r1, l1, f1, r2, l2, f2, hr⟩ := h.pre (by omega) hoff
  refine ⟨h.1.put hN 3 _ (by omega) (fun u hu => by rw [hV] at hu; cases hu) (by simp [depL]), .inl ⟨?_, ?_, ba hb, hs.below (ba (Below.refl _ _)), r1, l1, f1, r2, l2, f2, hr.lit1 hsz (by rw [h.1.tsz]; omega)⟩⟩
  · rw [getD_set (by omega), if_neg (by omega)]; exact h15
  · rw [getD_set (by omega), if_neg (by omega)]; exact h17
theorem J8.lit2 (h : J8 E N w0 w8 a0 wx V v1 v2 c1 c2 g1 g2 t x L a w) (hN : 69 ≤ N) (hoff : L.getD 12 false = false) (hV : V 12 = none) (h11 : L.getD 11 false = true) :
    J8 E N w0 w8 a0 wx V v1 v2 c1 c2 g1 g2 t x (L.setIfInBounds 12 true) (a.put (some 65) (.slice (some ⟨w.heap.size, 0, none⟩) 1 1)) (w.alloc (.cells #[.int .i64 x] E)) := by
  have hsz := h.1.size
  obtain ⟨h15, h17, hb, hs, r1, l1, f1, r2, l2, f2, hr⟩ := h.pre (by omega) hoff
  refine ⟨h.1.put hN 12 _ (by omega) (fun u hu => by rw [hV] at hu; cases hu) (by simp only [depL, List.mem_singleton]; intro j hj; rw [hj]; exact h11), .inl ⟨?_, ?_, ba hb, hs.below (ba (Below.refl _ _)), r1, l1, f1, r2, l2, f2, hr.lit2 hsz (by rw [h.1.tsz]; omega)⟩⟩
  · rw [getD_set (by omega), if_neg (by omega)]; exact h15
  · rw [getD_set (by omega), if_neg (by omega)]; exact h17
theorem sx_grown {X : List Nat} {o : Option Nat} (s : SX X w8 w) (hg : w.grownBy w' o) (ho : ∀ j, o = some j → j ∈ X ∨ w8.heap.size ≤ j) : SX X w8 w' := by
  refine ⟨Nat.le_trans s.1 hg.size, fun j hj hn => ?_⟩
  refine (hg.block j (Nat.lt_of_lt_of_le hj s.1) ?_).trans (s.2 j hj hn)
  intro e
  rcases ho j e.symm with h | h
  · exact hn h
  · omega
theorem J8.app1 {P : Program} {T : TypeId} {z : Value} {bytes : Nat} (hT : SlT P T E z 1 bytes) {o : Oper} {Q : Exit → Act → World → Prop}
    (ho : o.op = .call { callee := .builtin .append, args := #[.tmp 54, .tmp 56], argTypes := #[T, T] }) (hd : o.dst = some 57)
    (h : J8 E N w0 w8 a0 wx V v1 v2 c1 c2 g1 g2 t x L a w) (hN : 69 ≤ N) (hoff : L.getD 4 false = false) (h1 : L.getD 1 false = true) (h3 : L.getD 3 false = true) (hV : V 4 = none) (hV1 : V 1 = some v1) (ht : I64 t) (hn : c1.length ≤ 1048576) (hby : bytes ≤ 8) :
    o.wp P a w (J8 E N w0 w8 a0 wx V v1 v2 c1 c2 g1 g2 t x (L.setIfInBounds 4 true)) Q := by
  have hsz := h.1.size
  obtain ⟨h15, h17, hb, hs, r1, l1, f1, r2, l2, f2, hr⟩ := h.pre (by omega) hoff
  obtain ⟨rfl, rfl⟩ := hr.n1 hoff
  obtain ⟨n, e1, e2, e3, e4⟩ := hr.k1 h3 hoff
  have hm : (l1.length + 1) * bytes ≤ 1048577 * 8 := Nat.mul_le_mul (by omega) hby
  refine wp_app_lit hT (.tmp 54) (.tmp 56) ho hr.h1 hb (h.1.det 1 _ (by omega) h1 hV1) n t ht e1 e2 (by omega) (by unfold maxLen; omega) ?_
  intro g cap w' f' k1 k2 k3 k4
  rw [hd]
  have hw8 := hs.1
  refine ⟨h.1.put hN 4 _ (by omega) (fun u hu => by rw [hV] at hu; cases hu) (by simp [depL]), .inl ⟨?_, ?_, k2, sx_grown hs k3 (fun j hj => ?_), _, _, f', r2, l2, f2, hr.app1 hsz (by rw [h.1.tsz]; omega) hoff hw8 k1 k3 k4⟩⟩
  · rw [getD_set (by omega), if_neg (by omega)]; exact h15
  · rw [getD_set (by omega), if_neg (by omega)]; exact h17
  · rcases hr.s1 j (hr.h1.own_mem j hj) with h | h
    · exact .inl (List.mem_append.2 (.inl h))
    · exact .inr h
theorem J8.app2 {P : Program} {T : TypeId} {z : Value} {bytes : Nat} (hT : SlT P T E z 1 bytes) {o : Oper} {Q : Exit → Act → World → Prop}
    (ho : o.op = .call { callee := .builtin .append, args := #[.tmp 59, .tmp 65], argTypes := #[T, T] }) (hd : o.dst = some 66)
    (h : J8 E N w0 w8 a0 wx V v1 v2 c1 c2 g1 g2 t x L a w) (hN : 69 ≤ N) (hoff : L.getD 13 false = false) (h1 : L.getD 6 false = true) (h3 : L.getD 12 false = true) (hV : V 13 = none) (hV1 : V 6 = some v2) (ht : I64 x) (hn : c2.length ≤ 1048576) (hby : bytes ≤ 8) :
    o.wp P a w (J8 E N w0 w8 a0 wx V v1 v2 c1 c2 g1 g2 t x (L.setIfInBounds 13 true)) Q := by
  have hsz := h.1.size
  obtain ⟨h15, h17, hb, hs, r1, l1, f1, r2, l2, f2, hr⟩ := h.pre (by omega) hoff
  obtain ⟨rfl, rfl⟩ := hr.n2 hoff
  obtain ⟨n, e1, e2, e3, e4⟩ := hr.k2 h3 hoff
  have hm : (l2.length + 1) * bytes ≤ 1048577 * 8 := Nat.mul_le_mul (by omega) hby
  refine wp_app_lit hT (.tmp 59) (.tmp 65) ho hr.h2 hb (h.1.det 6 _ (by omega) h1 hV1) n x ht e1 e2 (by omega) (by unfold maxLen; omega) ?_
  intro g cap w' f' k1 k2 k3 k4
  rw [hd]
  have hw8 := hs.1
  refine ⟨h.1.put hN 13 _ (by omega) (fun u hu => by rw [hV] at hu; cases hu) (by simp only [depL, List.mem_singleton]; intro j hj; rw [hj]; exact h3), .inl ⟨?_, ?_, k2, sx_grown hs k3 (fun j hj => ?_), r1, l1, f1, _, _, f', hr.app2 hsz (by rw [h.1.tsz]; omega) hoff hw8 k1 k3 k4⟩⟩
  · rw [getD_set (by omega), if_neg (by omega)]; exact h15
  · rw [getD_set (by omega), if_neg (by omega)]; exact h17
  · rcases hr.s2 j (hr.h2.own_mem j hj) with h | h
    · exact .inl (List.mem_append.2 (.inr h))
    · exact .inr h
theorem J8.store1 (h : J8 E N w0 w8 a0 wx V v1 v2 c1 c2 g1 g2 t x L a w) (hoff : L.getD 15 false = false) (hall : ∀ i, i < 15 → L.getD i false = true) :
    J8 E N w0 w8 a0 wx V v1 v2 c1 c2 g1 g2 t x (L.setIfInBounds 15 true) a (w.setCell ⟨wx, 0, none⟩ (a.eval (.tmp 57))) := by
  have hsz := h.1.size
  rcases h.2 with ⟨h15, h17, hb, hs, r1, l1, f1, r2, l2, f2, hr⟩ | ⟨h15, _⟩
  rotate_left
  · rw [h15] at hoff; cases hoff
  obtain ⟨y1, y2⟩ := hr.y1 (hall 4 (by omega))
  obtain ⟨y3, y4⟩ := hr.y2 (hall 13 (by omega))
  subst y2 y4
  refine ⟨h.1.on 15 (by omega) (by omega) (by omega) (by simp [depL]), .inr ⟨by rw [getD_set (by omega)]; rfl, fun i hi => by rw [getD_set (by omega), if_neg (by omega)]; exact hall i hi, w, r1, f1, r2, f2, hb, hs, hr.h1, hr.h2, hr.s1, hr.s2, hr.dis, y3, .inl ⟨?_, by rw [y1]⟩⟩⟩
  rw [getD_set (by omega), if_neg (by omega)]; exact h17
theorem J8.store2 (h : J8 E N w0 w8 a0 wx V v1 v2 c1 c2 g1 g2 t x L a w) (h15 : L.getD 15 false = true) (hoff : L.getD 17 false = false) :
    J8 E N w0 w8 a0 wx V v1 v2 c1 c2 g1 g2 t x (L.setIfInBounds 17 true) a (w.setCell ⟨wx, 1, none⟩ (a.eval (.tmp 66))) := by
  have hsz := h.1.size
  rcases h.2 with ⟨h15', _⟩ | ⟨_, hall, w4, r1, f1, r2, f2, k1, k2, k3, k4, k5, k6, k7, k8, k9⟩
  · rw [h15'] at h15; cases h15
  refine ⟨h.1.on 17 (by omega) (by omega) (by omega) (by simp [depL]), .inr ⟨by rw [getD_set (by omega), if_neg (by omega)]; exact h15, fun i hi => by rw [getD_set (by omega), if_neg (by omega)]; exact hall i hi, w4, r1, f1, r2, f2, k1, k2, k3, k4, k5, k6, k7, k8, .inr ⟨by rw [getD_set (by omega)]; rfl, ?_⟩⟩⟩
  rcases k9 with ⟨_, e⟩ | ⟨e, _⟩
  · rw [e, k8]; rfl
  · rw [e] at hoff; cases hoff
/-- What is known of the box ahead of the stores. -/
theorem J8.box (h : J8 E N w0 w8 a0 wx V v1 v2 c1 c2 g1 g2 t x L a w) {i : Nat} (hi : i < 15) (hoff : L.getD i false = false) {r s : Value} (hx : Two w8 wx r s) (hn : wx ∉ g1 ++ g2) : Two w wx r s := by
  obtain ⟨_, _, _, hs, _⟩ := h.pre hi hoff
  exact hx.sx hs hn
end
section
variable {E : TypeId} {N : Nat} {w0 w8 : World} {a0 : Act} {wx : Nat} {V : Nat → Option Value} {v1 v2 : Value} {c1 c2 : List Int} {g1 g2 : List Nat} {t x : Int} {L : Array Bool} {a : Act} {w w' : World}
theorem J8.boxP (h : J8 E N w0 w8 a0 wx V v1 v2 c1 c2 g1 g2 t x L a w) (hoff : L.getD 15 false = false) {r s : Value} (hx : Two w8 wx r s) (hn : wx ∉ g1 ++ g2) : Two w wx r s := by
  rcases h.2 with ⟨_, _, _, hs, _⟩ | ⟨h15, _⟩
  · exact hx.sx hs hn
  · rw [h15] at hoff; cases hoff
theorem J8.v57 (h : J8 E N w0 w8 a0 wx V v1 v2 c1 c2 g1 g2 t x L a w) (hoff : L.getD 15 false = false) (h4 : L.getD 4 false = true) : ∃ p n q, a.eval (.tmp 57) = .slice p n q := by
  rcases h.2 with ⟨_, _, _, hs, r1, l1, f1, r2, l2, f2, hr⟩ | ⟨h15, _⟩
  · obtain ⟨p, q, e⟩ := slR.form hr.h1.sl
    exact ⟨p, _, q, (hr.y1 h4).1.trans e⟩
  · rw [h15] at hoff; cases hoff
theorem J8.v66 (h : J8 E N w0 w8 a0 wx V v1 v2 c1 c2 g1 g2 t x L a w) (h15 : L.getD 15 false = true) : ∃ p n q, a.eval (.tmp 66) = .slice p n q := by
  rcases h.2 with ⟨h15', _⟩ | ⟨_, hall, w4, r1, f1, r2, f2, k1, k2, k3, k4, k5, k6, k7, k8, k9⟩
  · rw [h15'] at h15; cases h15
  · obtain ⟨p, q, e⟩ := slR.form k4.sl
    exact ⟨p, _, q, k8.trans e⟩
theorem J8.boxQ (h : J8 E N w0 w8 a0 wx V v1 v2 c1 c2 g1 g2 t x L a w) (h15 : L.getD 15 false = true) (hoff : L.getD 17 false = false) {r s : Value} (hx : Two w8 wx r s) (hn : wx ∉ g1 ++ g2) : ∃ r', Two w wx r' s := by
  rcases h.2 with ⟨h15', _⟩ | ⟨_, hall, w4, r1, f1, r2, f2, k1, k2, k3, k4, k5, k6, k7, k8, k9⟩
  · rw [h15'] at h15; cases h15
  · rcases k9 with ⟨_, e⟩ | ⟨e, _⟩
    · rw [e]; exact ⟨_, (hx.sx k2 hn).set0 _⟩
    · rw [e] at hoff; cases hoff
end
theorem cell_cut {w8 w' : World} {n : Nat} (hle : n ≤ w8.heap.size) (hb : Below (cutW w8 n).heap.size (cutW w8 n) w') {j o : Nat} (hj : j < n) : w'.cell? ⟨j, o, none⟩ = w8.cell? ⟨j, o, none⟩ := by
  have h := hb
  have hc := cutW_below hle
  rw [cutW_size hle] at h hc
  exact World.cell?_of_block ((h.block j hj).trans (hc.block j hj).symm)
theorem frozen_cut {w8 w' : World} {n : Nat} (hle : n ≤ w8.heap.size) (hb : Below (cutW w8 n).heap.size (cutW w8 n) w') {j o : Nat} (hj : j < n) : w'.frozen? ⟨j, o, none⟩ = w8.frozen? ⟨j, o, none⟩ := by
  have h := hb
  have hc := cutW_below hle
  rw [cutW_size hle] at h hc
  exact World.frozen?_of_block ((h.block j hj).trans (hc.block j hj).symm)
theorem two_cut {w8 w' : World} {n : Nat} (hle : n ≤ w8.heap.size) (hb : Below (cutW w8 n).heap.size (cutW w8 n) w') {j : Nat} (hj : j < n) {r s : Value} (h : Two w8 j r s) : Two w' j r s := by
  obtain ⟨⟨c0, c1⟩, z0, z1⟩ := h
  exact ⟨⟨(cell_cut hle hb hj).trans c0, (cell_cut hle hb hj).trans c1⟩, (frozen_cut hle hb hj).trans z0, (frozen_cut hle hb hj).trans z1⟩
theorem two_two2 {w : World} {j g : Nat} {r s : Value} (h : Two w j r s) (hj : j ≠ g) (a b : Value) : Two (two2 w g a b) j r s := h.sx (SX.two2 g a b) (by simpa using hj)
theorem below_cut {w w8 w' : World} {n : Nat} (h : Below w.heap.size w w8) (hB : w.heap.size ≤ n) (hle : n ≤ w8.heap.size) (hb : Below (cutW w8 n).heap.size (cutW w8 n) w') : Below w.heap.size w w' := by
  have h2 := hb
  have hcs := cutW_size hle
  have hc := cutW_below hle
  rw [cutW_size hle] at h2 hc
  refine ⟨h2.os.trans (hc.os.symm.trans h.os), h2.tape.trans (hc.tape.symm.trans h.tape), h2.output.trans (hc.output.symm.trans h.output), ?_, fun k hk => (h2.block k (by omega)).trans ((hc.block k (by omega)).symm.trans (h.block k hk))⟩
  have := h2.size
  omega
theorem fresh_two {B : Nat} {f g : List Nat} (h : Fresh B f) (k : Fresh B g) (hd : ∀ j ∈ f, j ∉ g) : Fresh B (f ++ g) := by
  refine ⟨List.nodup_append.2 ⟨h.1, k.1, fun a ha b hb e => hd a ha (e ▸ hb)⟩, fun j hj => ?_⟩
  rcases List.mem_append.1 hj with hj | hj
  · exact h.2 j hj
  · exact k.2 j hj
/-- A frame of which the head is known. -/
theorem frame_split {tm : Array Value} {L0 : List Value} {n m : Nat} (hs : tm.size = n + m) (hL : L0.length = n + m) (h : ∀ s : Nat, s < n → tm.getD s undef = L0.toArray.getD s undef) : ∃ r : List Value, r.length = m ∧ tm = (L0.take n ++ r).toArray := by
  refine ⟨tm.toList.drop n, by simp; omega, ?_⟩
  apply Array.toList_inj.1
  simp only []
  refine List.ext_getElem? fun i => ?_
  by_cases hi : i < n
  · rw [List.getElem?_append_left (by simp; omega), List.getElem?_take, if_pos hi]
    have := h i hi
    have h1 : i < tm.size := by omega
    have h2 : i < L0.length := by omega
    simp [Array.getD, h1, h2] at this
    simp [h1, h2, this]
  · rw [List.getElem?_append_right (by simp; omega)]
    simp only [List.length_take, List.getElem?_drop]
    congr 1
    omega
theorem frame_split2 {tm : Array Value} {L0 : List Value} {n m q : Nat} (hs : tm.size = n + m + q) (hL : L0.length = n + m + q) (h : ∀ s : Nat, s < n ∨ n + m ≤ s → tm.getD s undef = L0.toArray.getD s undef) : ∃ r : List Value, r.length = m ∧ tm = (L0.take n ++ (r ++ L0.drop (n + m))).toArray := by
  obtain ⟨r, hr, e⟩ := frame_split (n := n) (m := m + q) (by omega) (by omega) (fun s hs => h s (.inl hs))
  refine ⟨r.take m, by simp; omega, ?_⟩
  rw [e]
  congr 2
  refine List.ext_getElem? fun i => ?_
  by_cases hi : i < m
  · rw [List.getElem?_append_left (by simp; omega), List.getElem?_take, if_pos hi]
  · rw [List.getElem?_append_right (by simp; omega)]
    simp only [List.length_take, List.getElem?_drop]
    have hmin : min m r.length = m := by omega
    rw [hmin]
    by_cases hi2 : i < m + q
    · have h1 := h (n + i) (.inr (by omega))
      have h3 : n + i < L0.length := by omega
      have h4 : i < r.length := by omega
      have h5 : tm.getD (n + i) undef = r[i] := by
        rw [e]
        have h6 : n + i < (L0.take n ++ r).length := by simp; omega
        simp only [Array.getD_eq_getD_getElem?, List.getElem?_toArray]
        rw [List.getElem?_append_right (by simp; omega)]
        simp only [List.length_take]
        rw [show n + i - min n L0.length = i by omega, List.getElem?_eq_getElem h4]
        rfl
      rw [h5] at h1
      simp only [Array.getD_eq_getD_getElem?, List.getElem?_toArray, List.getElem?_eq_getElem h3, Option.getD_some] at h1
      rw [List.getElem?_eq_getElem h4, h1, show n + m + (i - m) = n + i by omega, List.getElem?_eq_getElem h3]
    · rw [List.getElem?_eq_none (by omega), List.getElem?_eq_none (by omega)]
theorem list_succ {α : Type} {r : List α} {k : Nat} (h : r.length = k + 1) : ∃ x t, r = x :: t ∧ t.length = k := by
  cases r with
  | nil => simp at h
  | cons x t => exact ⟨x, t, rfl, by simpa using h⟩
theorem list_zero {α : Type} {r : List α} (h : r.length = 0) : r = [] := List.length_eq_zero_iff.1 h
end Go.Proofs.Ytapapnaljjnhnaa
