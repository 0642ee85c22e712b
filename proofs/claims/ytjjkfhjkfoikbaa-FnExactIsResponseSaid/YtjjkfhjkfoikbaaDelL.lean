/- A slice of facts of the call's own, of which some are struck in place. Over any program; no condition. -/
import Derived.Test.YtjjkfhjkfoikbaaGrow
namespace Go.Proofs.Ytjjkfhjkfoikbaa
open Go.RowKit
set_option linter.unusedVariables false
set_option linter.unusedSimpArgs false
section
variable {α : Type}
/-- A row's cells, what they read as, and the blocks that they lead to. -/
abbrev Tri (α : Type) := List Value × α × List Nat
theorem All.zip {R : Rd α} {w : World} {rows : List (List Value)} {l : List α} {fs : List (List Nat)} (h : All R w rows l fs) : ∃ z : List (Tri α), rows = z.map (·.1) ∧ l = z.map (·.2.1) ∧ fs = z.map (·.2.2) ∧ ∀ t ∈ z, R w t.1 t.2.1 t.2.2 := by
  induction h with
  | nil => exact ⟨[], rfl, rfl, rfl, by simp⟩
  | @cons c d f cs ds fs h1 _ ih =>
    obtain ⟨z, rfl, rfl, rfl, h⟩ := ih
    refine ⟨(c, d, f) :: z, rfl, rfl, rfl, fun t ht => ?_⟩
    rcases List.mem_cons.1 ht with rfl | ht
    · exact h1
    · exact h t ht
theorem All.unzip {R : Rd α} {w : World} : ∀ z : List (Tri α), (∀ t ∈ z, R w t.1 t.2.1 t.2.2) → All R w (z.map (·.1)) (z.map (·.2.1)) (z.map (·.2.2))
  | [], _ => .nil
  | t :: z, h => .cons (h t (by simp)) (All.unzip z fun t ht => h t (by simp [ht]))
theorem nodup_sub {z z' : List (Tri α)} (h : z'.Sublist z) (hn : (z.map (·.2.2)).flatten.Nodup) : (z'.map (·.2.2)).flatten.Nodup := by
  have hs := h.map (·.2.2)
  unfold List.Nodup at hn ⊢
  rw [List.pairwise_flatten] at hn ⊢
  exact ⟨fun l hl => hn.1 l (hs.subset hl), hn.2.sublist hs⟩
theorem flat_sub {z z' : List (Tri α)} (h : z'.Sublist z) : ∀ g ∈ (z'.map (·.2.2)).flatten, g ∈ (z.map (·.2.2)).flatten := by
  intro g hg
  obtain ⟨f, hf, hgf⟩ := List.mem_flatten.1 hg
  exact List.mem_flatten.2 ⟨f, (h.map (·.2.2)).subset hf, hgf⟩
/-- What is kept of the first j. -/
def keptT (q : α → Bool) (z : List (Tri α)) (j : Nat) : List (Tri α) := (z.take j).filter fun t => q t.2.1
theorem keptT_sub (q : α → Bool) (z : List (Tri α)) (j : Nat) : (keptT q z j).Sublist z := (List.filter_sublist (l := z.take j)).trans (List.take_sublist j z)
theorem keptT_yes {q : α → Bool} {z : List (Tri α)} {j : Nat} (hj : j < z.length) (h : q z[j].2.1 = true) : keptT q z (j + 1) = keptT q z j ++ [z[j]] := by
  unfold keptT; rw [List.take_succ_eq_append_getElem hj, List.filter_append]; simp [h]
theorem keptT_no {q : α → Bool} {z : List (Tri α)} {j : Nat} (hj : j < z.length) (h : q z[j].2.1 = false) : keptT q z (j + 1) = keptT q z j := by
  unfold keptT; rw [List.take_succ_eq_append_getElem hj, List.filter_append]; simp [h]
theorem keptT_len (q : α → Bool) (z : List (Tri α)) (j : Nat) : (keptT q z j).length ≤ j := Nat.le_trans (List.length_filter_le _ _) (by rw [List.length_take]; omega)
theorem keptT_data (q : α → Bool) (z : List (Tri α)) (j : Nat) : (keptT q z j).map (·.2.1) = ((z.map (·.2.1)).take j).filter q := by
  unfold keptT
  rw [← List.map_take, List.filter_map]; rfl
/-- The state of the row: what is kept stands at its head, what has not been looked at stands where it stood. -/
structure DelSt (sz : Nat) (q : α → Bool) (z : List (Tri α)) (i j : Nat) (cur : List (List Value)) : Prop where
  len : cur.length = z.length
  two : ∀ c ∈ cur, c.length = sz
  head : cur.take i = (keptT q z j).map (·.1)
  cnt : i = (keptT q z j).length
  rest : ∀ t, j ≤ t → t < z.length → cur[t]? = (z.map (·.1))[t]?
theorem DelSt.keep {sz : Nat} {q : α → Bool} {z : List (Tri α)} {i j : Nat} {cur : List (List Value)} (h : DelSt sz q z i j cur) (hj : j < z.length) (hi : i < j) (hz : z[j].1.length = sz) (hq : q z[j].2.1 = true) : DelSt sz q z (i + 1) (j + 1) (cur.set i z[j].1) := by
  have hl := h.len
  refine ⟨by rw [List.length_set]; exact hl, fun c hc => ?_, ?_, ?_, fun t ht hlt => ?_⟩
  · rcases List.mem_or_eq_of_mem_set hc with h1 | rfl
    · exact h.two c h1
    · exact hz
  · rw [keptT_yes hj hq, List.map_append, ← h.head, List.take_succ_eq_append_getElem (by rw [List.length_set]; omega), List.take_set_of_le (by omega)]
    simp
  · rw [keptT_yes hj hq, List.length_append, ← h.cnt]; rfl
  · rw [List.getElem?_set_ne (by omega)]
    exact h.rest t (by omega) hlt
theorem DelSt.skip {sz : Nat} {q : α → Bool} {z : List (Tri α)} {i j : Nat} {cur : List (List Value)} (h : DelSt sz q z i j cur) (hj : j < z.length) (hq : q z[j].2.1 = false) : DelSt sz q z i (j + 1) cur :=
  ⟨h.len, h.two, by rw [keptT_no hj hq]; exact h.head, by rw [keptT_no hj hq]; exact h.cnt, fun t ht hlt => h.rest t (by omega) hlt⟩
theorem DelSt.at {sz : Nat} {q : α → Bool} {z : List (Tri α)} {i j : Nat} {cur : List (List Value)} (h : DelSt sz q z i j cur) (hj : j < z.length) : cur[j]? = some z[j].1 := by
  rw [h.rest j (Nat.le_refl _) hj]; simp [List.getElem?_eq_getElem hj]
/-- The start: the first that goes stands at i. -/
theorem DelSt.start {sz : Nat} {q : α → Bool} {z : List (Tri α)} {i : Nat} (hi : i < z.length) (hz : ∀ t ∈ z, t.1.length = sz) (hq : ∀ t (ht : t < z.length), t < i → q z[t].2.1 = true) (hn : q z[i].2.1 = false) : DelSt sz q z i (i + 1) (z.map (·.1)) := by
  have hk : keptT q z (i + 1) = z.take i := by
    rw [keptT_no hi hn]
    unfold keptT
    rw [List.filter_eq_self]
    intro t ht
    obtain ⟨k, hk, rfl⟩ := List.mem_iff_getElem.1 ht
    rw [List.length_take] at hk
    rw [List.getElem_take]
    exact hq k (by omega) (by omega)
  refine ⟨by simp, fun c hc => ?_, by rw [hk, List.map_take], by rw [hk, List.length_take]; omega, fun t _ _ => rfl⟩
  obtain ⟨t, ht, rfl⟩ := List.mem_map.1 hc
  exact hz t ht
end
/-- The head of a row. -/
theorem Row.head {w : World} {E : TypeId} {sz n i g cap : Nat} {cur : List (List Value)} (h : Row w E sz (.slice (some ⟨g, 0, none⟩) n cap) n cur.flatten (some g)) (hl : ∀ c ∈ cur, c.length = sz) (hc : cur.length = n) (hi : i ≤ n) :
    Row w E sz (.slice (some ⟨g, 0, none⟩) i cap) i (cur.take i).flatten (some g) := by
  have hlen : ∀ l : List (List Value), (∀ c ∈ l, c.length = sz) → l.flatten.length = l.length * sz := by
    intro l hl
    induction l with
    | nil => simp
    | cons a t ih => simp only [List.flatten_cons, List.length_append, List.length_cons, Nat.succ_mul, hl a (by simp), ih fun c hc => hl c (by simp [hc])]; omega
  have e : cur.flatten.take (i * sz) = (cur.take i).flatten := by
    conv => lhs; rw [← List.take_append_drop i cur, List.flatten_append]
    rw [List.take_append_of_le_length (by rw [hlen _ fun c hc => hl c (List.mem_of_mem_take hc), List.length_take]; rw [Nat.min_eq_left (by omega)]; exact Nat.le_refl _)]
    rw [List.take_of_length_le]
    rw [hlen _ fun c hc => hl c (List.mem_of_mem_take hc), List.length_take, Nat.min_eq_left (by omega)]; exact Nat.le_refl _
  rcases h.2 with ⟨_, hv, _, ho⟩ | ⟨g', cap', cur', hv, ho, hg, h1, h2, h3, h4⟩
  · cases ho
  · cases hv
    refine ⟨?_, .inr ⟨g, cap, cur', rfl, rfl, hg, by omega, h2, h3, ?_⟩⟩
    · rw [hlen _ fun c hc => hl c (List.mem_of_mem_take hc), List.length_take, Nat.min_eq_left (by omega)]
    · rw [← e, ← h4, List.take_take]
      congr 1
      have := Nat.mul_le_mul_right sz hi
      omega
end Go.Proofs.Ytjjkfhjkfoikbaa
