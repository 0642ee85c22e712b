/- Plain laws: a text NAME(A,B,..) is cut at its parentheses, and a fact's own text is read as the fact. No condition, no program in sight. -/
import Derived.Test.YtpdmdfkcaabnaaaGreatDoorParL
import Derived.Lib.CutLaws
namespace Go.Proofs.YtpdmdfkcaabnaaaGreatDoor
open Go.RowKit
set_option linter.unusedVariables false
set_option linter.unusedSimpArgs false
/-- Where a separator first stands whose first byte does not occur ahead of it. -/
theorem index_miss {c : UInt8} (d : List UInt8) : ∀ {s : List UInt8}, (∀ b ∈ s, b ≠ c) → Lib.index s (c :: d) = -1
  | [], _ => by simp [Lib.index]
  | b :: t, h => by
    have ih := index_miss (c := c) d (s := t) fun x hx => h x (by simp [hx])
    have hp : (c :: d).isPrefixOf (b :: t) = false := by
      simp only [List.isPrefixOf, Bool.and_eq_false_iff]
      exact .inl (by simpa using fun e => h b (by simp) e.symm)
    rw [Lib.index, hp]; simp [ih]
theorem index_hit {c : UInt8} (d : List UInt8) : ∀ {s : List UInt8} (t : List UInt8), (∀ b ∈ s, b ≠ c) → Lib.index (s ++ c :: (d ++ t)) (c :: d) = (s.length : Int)
  | [], t, _ => by
    have hp : (c :: d).isPrefixOf (c :: (d ++ t)) = true := by rw [List.isPrefixOf_iff_prefix]; exact ⟨t, by simp⟩
    rw [List.nil_append, Lib.index, hp]; simp
  | b :: s, t, h => by
    have ih := index_hit (c := c) d (s := s) t fun x hx => h x (by simp [hx])
    have hp : (c :: d).isPrefixOf (b :: (s ++ c :: (d ++ t))) = false := by
      simp only [List.isPrefixOf, Bool.and_eq_false_iff]
      exact .inl (by simpa using fun e => h b (by simp) e.symm)
    rw [List.cons_append, Lib.index, hp, ih]
    have hn : ¬ ((s.length : Int) == -1) = true := fun e => by have := beq_iff_eq.1 e; omega
    rw [if_neg (by simp), if_neg hn]
    simp
theorem cut_hit {c : UInt8} (d : List UInt8) {s : List UInt8} (t : List UInt8) (h : ∀ b ∈ s, b ≠ c) : Lib.cut (s ++ c :: (d ++ t)) (c :: d) = (s, t, true) := by
  unfold Lib.cut
  rw [index_hit d t h, if_pos (by omega)]
  simp only [Int.toNat_natCast]
  rw [List.take_left, show s ++ c :: (d ++ t) = (s ++ c :: d) ++ t by simp, show s.length + (c :: d).length = (s ++ c :: d).length by simp, List.drop_left]
theorem cut_hit1 {c : UInt8} {s : List UInt8} (t : List UInt8) (h : ∀ b ∈ s, b ≠ c) : Lib.cut (s ++ c :: t) [c] = (s, t, true) := cut_hit [] t h
theorem cut_miss1 {c : UInt8} {s : List UInt8} (h : ∀ b ∈ s, b ≠ c) : Lib.cut s [c] = (s, [], false) := by
  unfold Lib.cut
  rw [index_miss [] h, if_neg (by omega)]
theorem first_or (c : UInt8) : ∀ s : List UInt8, (∀ b ∈ s, b ≠ c) ∨ ∃ a t, s = a ++ c :: t ∧ ∀ b ∈ a, b ≠ c
  | [] => .inl (by simp)
  | b :: s => by
    by_cases hb : b = c
    · exact .inr ⟨[], s, by rw [hb]; rfl, by simp⟩
    · rcases first_or c s with h | ⟨a, t, rfl, h⟩
      · exact .inl fun x hx => (List.mem_cons.1 hx).elim (fun e => e ▸ hb) (h x)
      · exact .inr ⟨b :: a, t, rfl, fun x hx => (List.mem_cons.1 hx).elim (fun e => e ▸ hb) (h x)⟩
/-- A text NAME(A,B,..) in the reference's eyes: its name and its parts. -/
def callS (t : List UInt8) : List UInt8 × List (List UInt8) :=
  if t.getLast? = some 41 ∧ (Lib.cut t [40]).2.2 = true then ((Lib.cut t [40]).1, cutL 44 (Lib.cut t [40]).2.1.dropLast) else ([], [])
theorem callS_no {t : List UInt8} (h : t.getLast? ≠ some 41) : callS t = ([], []) := by unfold callS; rw [if_neg fun e => h e.1]
theorem callS_none {t : List UInt8} (h : ∀ b ∈ t, b ≠ 40) : callS t = ([], []) := by unfold callS; rw [cut_miss1 h, if_neg fun e => by simp at e]
theorem callS_hit {a r : List UInt8} (h : ∀ b ∈ a, b ≠ 40) : callS (a ++ 40 :: (r ++ [41])) = (a, cutL 44 r) := by
  unfold callS
  rw [cut_hit1 (r ++ [41]) h]
  have hl : (a ++ 40 :: (r ++ [41])).getLast? = some 41 := by
    rw [show a ++ 40 :: (r ++ [41]) = (a ++ 40 :: r) ++ [41] by simp, List.getLast?_concat]
  rw [if_pos ⟨hl, rfl⟩]
  simp
theorem callS_len (t : List UInt8) : (callS t).1.length ≤ t.length ∧ (callS t).2.length ≤ t.length + 1 ∧ ∀ p ∈ (callS t).2, p.length ≤ t.length := by
  unfold callS
  split
  · have hc : (Lib.cut t [40]).1.length ≤ t.length ∧ (Lib.cut t [40]).2.1.length ≤ t.length := by
      unfold Lib.cut
      split
      · simp; omega
      · simp
    have h1 := cutL_len 44 (Lib.cut t [40]).2.1.dropLast
    have h2 : (Lib.cut t [40]).2.1.dropLast.length ≤ t.length := by rw [List.length_dropLast]; omega
    exact ⟨hc.1, Nat.le_trans h1 (by omega), fun p hp => Nat.le_trans (cutL_piece 44 _ p hp) h2⟩
  · simp
/-- What the reference reads off a fact's text. -/
def fOf (t : List UInt8) : FactD := ⟨relV (callS t).1, (callS t).2.map numV⟩
theorem factFB_parts {f : FactD} (h : factFB f = true) : inR f.rel 0 2 = true ∧ inR (f.vals.length : Int) 1 3 = true ∧ (f.vals.any fun n => !isVal n) = false := by
  unfold factFB at h
  simp only [Bool.and_eq_true, Bool.not_eq_true'] at h
  exact ⟨h.1.1, h.1.2, h.2⟩
theorem val_small {l : List Int} (h : (l.any fun n => !isVal n) = false) : ∀ i ∈ l, -999999999 ≤ i ∧ i ≤ 999999999 := by
  intro i hi
  have h1 := (List.any_eq_false.1 h) i hi
  have h2 : isVal i = true := by simpa using h1
  have := inR_true (show inR i 0 9 = true from h2)
  omega
theorem rel_small {r : Int} (h : inR r 0 2 = true) : -999999999 ≤ r ∧ r ≤ 999999999 := by have := inR_true h; omega
theorem name_no40 (r : Int) : ∀ b ∈ (114 :: Lib.itoa r : List UInt8), b ≠ 40 := by
  intro b hb
  rcases List.mem_cons.1 hb with rfl | hb
  · decide
  · exact itoa_no (by decide) (by decide) b hb
theorem callS_fact {f : FactD} (h : factFB f = true) : callS (factFS f) = (114 :: Lib.itoa f.rel, f.vals.map Lib.itoa) := by
  have h2 := inR_true (factFB_parts h).2.1
  rw [factFS_yes h, ← List.cons_append, callS_hit (name_no40 _), cut_inp (by omega)]
theorem fOf_fact {f : FactD} (h : factFB f = true) : fOf (factFS f) = f := by
  obtain ⟨h1, h2, h3⟩ := factFB_parts h
  unfold fOf
  rw [callS_fact h]
  simp only [relV_itoa (rel_small h1).1 (rel_small h1).2, map_num (val_small h3)]
theorem arity_bd {s : List Int} {r : Int} (h : hasRelB s r = true) : inR r 0 2 = true ∧ inR (arity s r) 1 3 = true := by
  unfold hasRelB schemaB at h
  simp only [Bool.and_eq_true, Bool.not_eq_true'] at h
  obtain ⟨⟨h1, h2⟩, h3⟩ := h
  have h1 := inR_true h1
  have h3 := inR_true h3
  refine ⟨by unfold inR; simp; omega, ?_⟩
  have hlt : r.toNat < s.length := by omega
  have hm := (List.any_eq_false.1 h2) s[r.toNat] (List.getElem_mem hlt)
  have e : arity s r = s[r.toNat] := by unfold arity; simp [hlt]
  rw [e]; simpa using hm
theorem fact_fmt {s : List Int} {f : FactD} (h : factB s f = true) : factFB f = true := by
  unfold factB at h
  simp only [Bool.and_eq_true, decide_eq_true_eq] at h
  obtain ⟨⟨h1, h2⟩, h3⟩ := h
  obtain ⟨h4, h5⟩ := arity_bd h1
  unfold factFB
  rw [h4, h2, h5, h3]; rfl
/-- What parsing a fact's text comes to: the fact that has the text, if there is one. -/
def FactIs (s : List Int) (t : List UInt8) (f : FactD) (k : Bool) : Prop := (factB s f = true ∧ factFS f = t ∧ k = true) ∨ ((∀ n, factB s n = true → factFS n ≠ t) ∧ f = ⟨0, []⟩ ∧ k = false)
theorem FactIs.one {s : List Int} {t : List UInt8} {f f' : FactD} {k k' : Bool} (h : FactIs s t f k) (g : FactIs s t f' k') : f = f' ∧ k = k' := by
  rcases h with ⟨a, c, rfl⟩ | ⟨hn, rfl, rfl⟩ <;> rcases g with ⟨a', c', rfl⟩ | ⟨hn', rfl, rfl⟩
  · have e := fOf_fact (fact_fmt a)
    have e' := fOf_fact (fact_fmt a')
    rw [c] at e; rw [c'] at e'
    exact ⟨e.symm.trans e', rfl⟩
  · exact absurd c (hn' _ a)
  · exact absurd c' (hn _ a')
  · exact ⟨rfl, rfl⟩
theorem fact_no {s : List Int} {t : List UInt8} (h : factB s (fOf t) = false ∨ factFS (fOf t) ≠ t) : ∀ n, factB s n = true → factFS n ≠ t := by
  intro n h1 e
  have h3 := fOf_fact (fact_fmt h1)
  rw [e] at h3
  rw [h3] at h
  rcases h with h | h
  · rw [h] at h1; cases h1
  · exact h e
/-- As the program reads a call: the number behind the letter, and the words. -/
def wordsC (inner : List UInt8) : List (List UInt8) := if inner = [] then [] else cutL 44 inner
def readC (c : UInt8) (t : List UInt8) : Option (Int × List (List UInt8)) :=
  if (Lib.cut t [40]).2.2 = true ∧ (pInt (Lib.trimPrefix (Lib.cut t [40]).1 [c])).isSome = true ∧ Lib.hasSuffix (Lib.cut t [40]).2.1 [41] = true then
    some ((pInt (Lib.trimPrefix (Lib.cut t [40]).1 [c])).getD 0, wordsC (Lib.trimSuffix (Lib.cut t [40]).2.1 [41])) else none
theorem trimP (c : UInt8) (t : List UInt8) : Lib.trimPrefix (c :: t) [c] = t := by
  unfold Lib.trimPrefix Lib.hasPrefix
  simp [List.isPrefixOf]
theorem trimP_no {c b : UInt8} (t : List UInt8) (h : b ≠ c) : Lib.trimPrefix (b :: t) [c] = b :: t := by
  unfold Lib.trimPrefix Lib.hasPrefix
  simp [List.isPrefixOf, Ne.symm h]
theorem hasS (c : UInt8) (t : List UInt8) : Lib.hasSuffix (t ++ [c]) [c] = true := by
  unfold Lib.hasSuffix
  rw [List.isSuffixOf_iff_suffix]
  exact ⟨t, rfl⟩
theorem trimS (c : UInt8) (t : List UInt8) : Lib.trimSuffix (t ++ [c]) [c] = t := by
  unfold Lib.trimSuffix
  rw [if_pos (hasS c t)]
  simp
theorem readC_hit {c : UInt8} {n : Int} {r : List UInt8} (hc : c ≠ 40) (h0 : -999999999 ≤ n) (h1 : n ≤ 999999999) : readC c (c :: Lib.itoa n ++ 40 :: (r ++ [41])) = some (n, wordsC r) := by
  have hno : ∀ b ∈ (c :: Lib.itoa n : List UInt8), b ≠ 40 := by
    intro b hb
    rcases List.mem_cons.1 hb with rfl | hb
    · exact hc
    · exact itoa_no (by decide) (by decide) b hb
  unfold readC
  rw [cut_hit1 (r ++ [41]) hno]
  simp only [trimP, pInt_itoa h0 h1, hasS, trimS]
  simp
theorem readC_fact {f : FactD} (h : factFB f = true) : readC 114 (factFS f) = some (f.rel, f.vals.map Lib.itoa) := by
  obtain ⟨h1, h2, h3⟩ := factFB_parts h
  have h2' := inR_true h2
  have hne : listS f.vals [44] ≠ [] := by
    intro e
    have h4 := cut_inp (l := f.vals) (by omega)
    rw [e] at h4
    cases hv : f.vals with
    | nil => rw [hv] at h2'; simp at h2'
    | cons x t =>
      rw [hv] at h4
      obtain ⟨b, r, hb⟩ := itoa_cons x
      simp [cutL, hb] at h4
  rw [factFS_yes h, ← List.cons_append, readC_hit (by decide) (rel_small h1).1 (rel_small h1).2]
  unfold wordsC
  rw [if_neg hne, cut_inp (by omega)]
/-- As the program reads numbers off words. -/
def allI (l : List (List UInt8)) : Bool := l.all fun p => (pInt p).isSome
def valI (l : List (List UInt8)) : List Int := l.map fun p => (pInt p).getD 0
theorem allI_itoa {l : List Int} (h : ∀ i ∈ l, -999999999 ≤ i ∧ i ≤ 999999999) : allI (l.map Lib.itoa) = true ∧ valI (l.map Lib.itoa) = l := by
  constructor
  · unfold allI
    rw [List.all_eq_true]
    intro p hp
    obtain ⟨n, hn, rfl⟩ := List.mem_map.1 hp
    rw [pInt_itoa (h n hn).1 (h n hn).2]; rfl
  · unfold valI
    rw [List.map_map]
    conv => rhs; rw [← List.map_id l]
    exact List.map_congr_left fun n hn => by simp only [Function.comp, pInt_itoa (h n hn).1 (h n hn).2]; rfl
theorem allI_no {l : List (List UInt8)} {k : Nat} (hk : k < l.length) (h : pInt l[k] = none) : allI l = false := by
  unfold allI
  rw [List.all_eq_false]
  exact ⟨l[k], List.getElem_mem hk, by rw [h]; simp⟩
/-- The program's reading fails, and there is no such fact. -/
theorem factI_no {s : List Int} {t : List UInt8} (h : readC 114 t = none ∨ ∃ r ws, readC 114 t = some (r, ws) ∧ (allI ws = false ∨ factB s ⟨r, valI ws⟩ = false ∨ factFS ⟨r, valI ws⟩ ≠ t)) : ∀ n, factB s n = true → factFS n ≠ t := by
  intro n h1 e
  have h2 := readC_fact (fact_fmt h1)
  obtain ⟨_, _, h3⟩ := factFB_parts (fact_fmt h1)
  obtain ⟨h4, h5⟩ := allI_itoa (val_small h3)
  rw [e] at h2
  rcases h with h | ⟨r, ws, h, h'⟩
  · rw [h] at h2; cases h2
  · rw [h] at h2
    simp only [Option.some.injEq, Prod.mk.injEq] at h2
    obtain ⟨rfl, rfl⟩ := h2
    rw [h4, h5] at h'
    rcases h' with h' | h' | h'
    · cases h'
    · rw [h1] at h'; cases h'
    · exact h' e
end Go.Proofs.YtpdmdfkcaabnaaaGreatDoor
