/- Plain laws on lists: insertion at the first greater place; strictly ascending lists of integers; what is left when equals that follow each other are struck. No condition, no program in sight. -/
import Derived.Test.YtpdmdfkcaabnaaaGreatDoorMA
import Derived.Lib.SlicesCompact
namespace Go.Proofs.YtpdmdfkcaabnaaaGreatDoor
open Go.RowKit
set_option linter.unusedVariables false
set_option linter.unusedSimpArgs false

/-! ### Insertion ahead of the first place that a test takes -/
def insF {α : Type} (p : α → Bool) (x : α) : List α → List α
  | [] => [x]
  | y :: t => if p y then x :: y :: t else y :: insF p x t
/-- The place of insertion. -/
def insAt {α : Type} (p : α → Bool) (l : List α) : Nat := if idxI p l < 0 then l.length else (idxI p l).toNat
theorem idxI_cons {α : Type} (p : α → Bool) (y : α) (t : List α) : idxI p (y :: t) = if p y then 0 else if idxI p t < 0 then -1 else idxI p t + 1 := by
  unfold idxI
  rw [List.findIdx?_cons]
  cases hp : p y with
  | true => simp
  | false =>
    cases h : t.findIdx? p with
    | none => simp
    | some i => simp; omega
theorem insF_at {α : Type} (p : α → Bool) (x : α) (l : List α) : insF p x l = l.take (insAt p l) ++ x :: l.drop (insAt p l) := by
  induction l with
  | nil => simp [insF, insAt]
  | cons y t ih =>
    unfold insF
    cases hp : p y with
    | true =>
      have h : insAt p (y :: t) = 0 := by unfold insAt; rw [idxI_cons, hp]; simp
      rw [h]; simp
    | false =>
      have h : insAt p (y :: t) = insAt p t + 1 := by
        unfold insAt
        rw [idxI_cons, hp]
        by_cases h0 : idxI p t < 0
        · simp [h0]
        · simp [h0]
          rw [if_neg (by omega)]; omega
      rw [h, List.take_succ_cons, List.drop_succ_cons]
      simp [ih]
theorem insAt_le {α : Type} (p : α → Bool) (l : List α) : insAt p l ≤ l.length := by
  unfold insAt
  split
  · omega
  · unfold idxI
    cases h : l.findIdx? p with
    | none => simp
    | some i =>
      rw [List.findIdx?_eq_some_iff_getElem] at h
      obtain ⟨hi, _⟩ := h
      simp; omega
theorem insF_length {α : Type} (p : α → Bool) (x : α) (l : List α) : (insF p x l).length = l.length + 1 := by
  induction l with
  | nil => rfl
  | cons y t ih => unfold insF; split <;> simp [ih]
theorem insF_congr {α : Type} {p q : α → Bool} (x : α) {l : List α} (h : ∀ y ∈ l, p y = q y) : insF p x l = insF q x l := by
  induction l with
  | nil => rfl
  | cons y t ih =>
    unfold insF
    rw [h y (by simp), ih fun z hz => h z (by simp [hz])]
theorem insF_mem {α : Type} (p : α → Bool) (x : α) (l : List α) (y : α) : y ∈ insF p x l ↔ y = x ∨ y ∈ l := by
  induction l with
  | nil => simp [insF]
  | cons z t ih =>
    unfold insF
    split
    · simp
    · simp only [List.mem_cons, ih]
      constructor
      · rintro (h | h | h)
        · exact .inr (.inl h)
        · exact .inl h
        · exact .inr (.inr h)
      · rintro (h | h | h)
        · exact .inr (.inl h)
        · exact .inl h
        · exact .inr (.inr h)
theorem insF_map {α β : Type} (f : α → β) (p : α → Bool) (q : β → Bool) (x : α) (l : List α) (h : ∀ y ∈ l, q (f y) = p y) : (insF p x l).map f = insF q (f x) (l.map f) := by
  induction l with
  | nil => rfl
  | cons y t ih =>
    have h0 := h y (by simp)
    have ih' := ih fun z hz => h z (by simp [hz])
    rw [List.map_cons]
    simp only [insF, h0]
    split
    · simp
    · simp [ih']
/-- One round of the loop that inserts. -/
theorem insF_drop {α : Type} {p : α → Bool} {x : α} {l : List α} {k : Nat} (hk : k < l.length) : insF p x (l.drop k) = if p l[k] then x :: l[k] :: l.drop (k + 1) else l[k] :: insF p x (l.drop (k + 1)) := by
  rw [List.drop_eq_getElem_cons hk]; rfl

/-! ### Strictly ascending lists of integers -/
def Asc (l : List Int) : Prop := l.Pairwise (· < ·)
theorem Asc.ext : ∀ {l m : List Int}, Asc l → Asc m → (∀ x, x ∈ l ↔ x ∈ m) → l = m
  | [], [], _, _, _ => rfl
  | [], y :: m, _, _, h => by have := (h y).2 (by simp); simp at this
  | x :: l, [], _, _, h => by have := (h x).1 (by simp); simp at this
  | x :: l, y :: m, hl, hm, h => by
    have hl' := List.pairwise_cons.1 hl
    have hm' := List.pairwise_cons.1 hm
    have e : x = y := by
      rcases List.mem_cons.1 ((h x).1 (by simp)) with h1 | h1
      · exact h1
      · rcases List.mem_cons.1 ((h y).2 (by simp)) with h2 | h2
        · exact h2.symm
        · have a := hm'.1 x h1
          have b := hl'.1 y h2
          omega
    subst e
    congr 1
    refine Asc.ext hl'.2 hm'.2 fun z => ?_
    have := h z
    simp only [List.mem_cons] at this
    constructor
    · intro hz
      rcases this.1 (.inr hz) with rfl | h1
      · have := hl'.1 _ hz; omega
      · exact h1
    · intro hz
      rcases this.2 (.inr hz) with rfl | h1
      · have := hm'.1 _ hz; omega
      · exact h1
/-- A number is put into an ascending list, if it is not there. -/
def putL (l : List Int) (x : Int) : List Int := if l.contains x then l else insF (fun y => decide (x < y)) x l
theorem putL_mem (l : List Int) (x y : Int) : y ∈ putL l x ↔ y ∈ l ∨ y = x := by
  unfold putL
  split
  · rename_i h
    simp at h
    constructor
    · exact .inl
    · rintro (h1 | rfl)
      · exact h1
      · exact h
  · rw [insF_mem]
    exact Or.comm
theorem insF_asc {l : List Int} {x : Int} (h : Asc l) (hx : x ∉ l) : Asc (insF (fun y => decide (x < y)) x l) := by
  induction l with
  | nil => simp [insF, Asc]
  | cons y t ih =>
    unfold insF
    have h' := List.pairwise_cons.1 h
    have hne : x ≠ y := fun e => hx (by simp [e])
    have hnt : x ∉ t := fun e => hx (by simp [e])
    split
    · rename_i hlt
      have hlt' : x < y := by simpa using hlt
      refine List.pairwise_cons.2 ⟨fun z hz => ?_, h⟩
      rcases List.mem_cons.1 hz with rfl | hz
      · exact hlt'
      · have := h'.1 z hz; omega
    · rename_i hlt
      have hge : ¬ x < y := by simpa using hlt
      refine List.pairwise_cons.2 ⟨fun z hz => ?_, ih h'.2 hnt⟩
      rcases (insF_mem _ _ _ _).1 hz with rfl | hz
      · omega
      · exact h'.1 z hz
theorem putL_asc {l : List Int} {x : Int} (h : Asc l) : Asc (putL l x) := by
  unfold putL
  split
  · exact h
  · rename_i hc
    exact insF_asc h (by simpa using hc)
/-- The numbers of a list that a test takes, ascending, each once. -/
def setOf (p : Int → Bool) (l : List Int) : List Int := (l.filter p).foldl putL []
theorem foldl_putL_mem (l acc : List Int) (y : Int) : y ∈ l.foldl putL acc ↔ y ∈ acc ∨ y ∈ l := by
  induction l generalizing acc with
  | nil => simp
  | cons x t ih => rw [List.foldl_cons, ih, putL_mem, List.mem_cons]; exact or_assoc
theorem foldl_putL_asc (l : List Int) : ∀ acc : List Int, Asc acc → Asc (l.foldl putL acc) := by
  induction l with
  | nil => intro acc h; exact h
  | cons x t ih => intro acc h; exact ih _ (putL_asc h)
theorem setOf_mem (p : Int → Bool) (l : List Int) (y : Int) : y ∈ setOf p l ↔ y ∈ l ∧ p y = true := by
  unfold setOf; rw [foldl_putL_mem]; simp
theorem setOf_asc (p : Int → Bool) (l : List Int) : Asc (setOf p l) := foldl_putL_asc _ _ List.Pairwise.nil

/-! ### slices.Compact of an ascending list -/
theorem compact_mem_of_sorted (zs : List Int) (x : Int) : x ∈ Lib.compact zs ↔ x ∈ zs := by
  unfold Lib.compact Lib.compactUpTo
  simp only [List.mem_map, List.mem_filter, List.mem_range]
  constructor
  · rintro ⟨i, ⟨hi, _⟩, rfl⟩
    have : zs.toArray[i]! = zs[i] := by simp [hi]
    rw [this]; exact List.getElem_mem hi
  · intro hx
    obtain ⟨i, hi, rfl⟩ := List.mem_iff_getElem.1 hx
    clear hx
    induction i with
    | zero => exact ⟨0, ⟨hi, Lib.keeps_lt_one _ 0 (by omega)⟩, by simp [hi]⟩
    | succ i ih =>
      by_cases he : zs[i + 1] = zs[i]
      · obtain ⟨j, hj, e⟩ := ih (by omega)
        exact ⟨j, hj, by rw [e, he]⟩
      · refine ⟨i + 1, ⟨hi, Lib.keeps_pos ?_⟩, by simp [hi]⟩
        have h1 : zs.toArray[i + 1]! = zs[i + 1] := by simp [hi]
        have h2 : zs.toArray[i + 1 - 1]! = zs[i] := by simp [show i < zs.length by omega]
        rw [h1, h2]; exact he
theorem compact_asc {zs : List Int} (h : zs.Pairwise (· ≤ ·)) : Asc (Lib.compact zs) := by
  unfold Asc Lib.compact Lib.compactUpTo
  rw [List.pairwise_map]
  refine List.Pairwise.imp_of_mem ?_ ((List.pairwise_lt_range (n := zs.length)).filter _)
  intro a b ha hb hab
  rw [List.mem_filter, List.mem_range] at ha hb
  obtain ⟨ha1, _⟩ := ha
  obtain ⟨hb1, hb2⟩ := hb
  have ea : zs.toArray[a]! = zs[a] := by simp [ha1]
  have eb : zs.toArray[b]! = zs[b] := by simp [hb1]
  have eb' : zs.toArray[b - 1]! = zs[b - 1] := by simp [show b - 1 < zs.length by omega]
  rw [ea, eb]
  have hmono : ∀ i j (hi : i < zs.length) (hj : j < zs.length), i ≤ j → zs[i] ≤ zs[j] := by
    intro i j hi hj hij
    rcases Nat.lt_or_ge i j with h1 | h1
    · exact List.pairwise_iff_getElem.1 h i j hi hj h1
    · have : i = j := by omega
      subst this; exact Int.le_refl _
  have h1 := hmono a (b - 1) ha1 (by omega) (by omega)
  have h2 := hmono (b - 1) b (by omega) hb1 (by omega)
  have h3 : zs[b] ≠ zs[b - 1] := by
    intro e
    have : Lib.keeps zs.toArray b = false := Lib.keeps_neg (by omega) (by rw [eb, eb', e])
    rw [this] at hb2; cases hb2
  omega
theorem compact_sort (p : Int → Bool) (l : List Int) : Lib.compact ((l.filter p).mergeSort fun x y => decide (x ≤ y)) = setOf p l := by
  refine Asc.ext (compact_asc ?_) (setOf_asc p l) fun x => ?_
  · have h := List.pairwise_mergeSort (le := fun x y : Int => decide (x ≤ y)) (fun a b c h1 h2 => by simp at *; omega) (fun a b => by simp; omega) (l.filter p)
    exact h.imp (fun h => by simpa using h)
  · rw [compact_mem_of_sorted, List.mem_mergeSort, List.mem_filter, setOf_mem]
end Go.Proofs.YtpdmdfkcaabnaaaGreatDoor
