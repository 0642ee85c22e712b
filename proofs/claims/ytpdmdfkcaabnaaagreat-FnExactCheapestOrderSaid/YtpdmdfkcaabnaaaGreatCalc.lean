/- What the functions compute, in plain terms: schemas, facts, atoms, methods, accesses, comparison, values. No condition. -/
import Derived.Test.YtpdmdfkcaabnaaaGreatSchema
import Derived.Test.YtpdmdfkcaabnaaaGreatHBase
import Derived.Deep.QuietTactic
import Derived.BigQuiet
namespace Go.Proofs.YtpdmdfkcaabnaaaGreat
open Go.RowKit
set_option linter.unusedVariables false
set_option linter.unusedSimpArgs false

/-! ### Worlds -/
theorem ba {w w' : World} {o : Obj} (h : Below w.heap.size w w') : Below w.heap.size w (w'.alloc o) := h.alloc h.size _
theorem bdr {w w' : World} (h : Below w.heap.size w w') : Below w.heap.size w w'.drew := h.drew
theorem bt {w w1 w2 : World} (h : Below w.heap.size w w1) (k : Below w1.heap.size w1 w2) : Below w.heap.size w w2 := h.trans (k.mono h.size)
theorem bs {w w' : World} {p : Addr} {u : Value} (h : Below w.heap.size w w') (hp : w.heap.size ≤ p.block) : Below w.heap.size w (w'.setCell p u) := h.setCell hp u
/-- A world that differs by draws alone. -/
def Qt (w w' : World) : Prop := ∃ m, w' = w.drewN m
theorem Qt.refl (w : World) : Qt w w := ⟨0, rfl⟩
theorem Qt.trans {a b c : World} (h : Qt a b) (k : Qt b c) : Qt a c := by
  obtain ⟨m, rfl⟩ := h
  obtain ⟨n, rfl⟩ := k
  exact ⟨m + n, World.drewN_drewN _ _ _⟩
theorem Qt.dn (w : World) (n : Nat) : Qt w (w.drewN n) := ⟨n, rfl⟩
theorem Qt.below {a b : World} (h : Qt a b) : Below a.heap.size a b := by
  obtain ⟨m, rfl⟩ := h
  exact ⟨rfl, rfl, rfl, Nat.le_refl _, fun _ _ => rfl⟩
theorem bdn {B : Nat} {w w' : World} {n : Nat} (h : Below B w w') : Below B w (w'.drewN n) := ⟨h.os, h.tape, h.output, h.size, h.block⟩
theorem bqt {w w1 w2 : World} (h : Below w.heap.size w w1) (k : Qt w1 w2) : Below w.heap.size w w2 := bt h k.below
theorem qOf {P : Program} {f : FuncId} {args : Array Value} {w : World} {n : Nat} {v : Value} (h : Calls P f args (w.drewN n) fun e w' => e = .returned v ∧ Qt (w.drewN n) w') :
    Calls P f args (w.drewN n) fun e w'' => e = .returned v ∧ ∃ m, w'' = w.drewN m := Calls.quiet_of (h.mono fun _ _ h => h)
theorem qEq {P : Program} {f : FuncId} {args : Array Value} {w : World} {n : Nat} {v : Value} (h : Calls P f args (w.drewN n) fun e w' => e = .returned v ∧ w.drewN n = w') :
    Calls P f args (w.drewN n) fun e w'' => e = .returned v ∧ ∃ m, w'' = w.drewN m := h.mono fun _ _ ⟨he, hm⟩ => ⟨he, n, hm.symm⟩
theorem ints.dn {w : World} {v : Value} {l : List Int} {f : List Nat} (h : ints w v l f) (n : Nat) : ints (w.drewN n) v l f := h.frame fun _ _ => rfl
theorem ints.al {w : World} {v : Value} {l : List Int} {f : List Nat} (h : ints w v l f) (o : Obj) : ints (w.alloc o) v l f := h.below' (ba (Below.refl _ _))
theorem cell_new (w : World) (t : TypeId) (cs : Array Value) (j : Nat) (u : Value) (h : cs[j]? = some u) : (w.alloc (.cells cs t)).cell? ⟨w.heap.size, j, none⟩ = some u := ((Blk.new w t cs).cell j).trans h
theorem cell_al {w : World} {a : Addr} {u : Value} (h : w.cell? a = some u) (o : Obj) : (w.alloc o).cell? a = some u := cell_below h (ba (Below.refl _ _))
theorem cell_at (W : World) (n : Nat) (hn : W.heap.size = n) (t : TypeId) (cs : Array Value) (j : Nat) (u : Value) (h : cs[j]? = some u) : (W.alloc (.cells cs t)).cell? ⟨n, j, none⟩ = some u := by
  subst hn; exact cell_new W t cs j u h
theorem lt_of_cell {w : World} {b o : Nat} {u : Value} (h : w.cell? ⟨b, o, none⟩ = some u) : b < w.heap.size := World.block_lt_of_cell? w ⟨b, o, none⟩ h
theorem hide_eq {α : Type} {a b : α} (h : a = b) : Hid (a = b) := Lib.hid h

/-! ### Loops that leave at the first place that a test takes -/
/-- Does a test take a place below n. -/
def anyN (n : Nat) (p : Nat → Bool) : Bool := (List.range n).any p
theorem anyN_true {n : Nat} {p : Nat → Bool} {k : Nat} (hk : k < n) (h : p k = true) : anyN n p = true := by
  unfold anyN; rw [List.any_eq_true]; exact ⟨k, by simpa using hk, h⟩
theorem anyN_false {n : Nat} {p : Nat → Bool} (h : ∀ j, j < n → p j = false) : anyN n p = false := by
  unfold anyN; rw [List.any_eq_false]; intro j hj; simp [h j (by simpa using hj)]
theorem anyN_step {p : Nat → Bool} {k : Nat} (H : ∀ j, j < k → p j = false) (h : p k = false) : ∀ j, j < k + 1 → p j = false := by
  intro j hj
  by_cases e : j = k
  · subst e; exact h
  · exact H j (by omega)
theorem anyN_zero {p : Nat → Bool} : ∀ j, j < 0 → p j = false := fun j h => absurd h (by omega)
theorem anyN_list {α : Type} (l : List α) (p : α → Bool) (q : Nat → Bool) (h : ∀ i (hi : i < l.length), q i = p l[i]) : anyN l.length q = l.any p := by
  unfold anyN
  rw [Bool.eq_iff_iff, List.any_eq_true, List.any_eq_true]
  constructor
  · rintro ⟨i, hi, hq⟩
    have hi' : i < l.length := by simpa using hi
    exact ⟨l[i], List.getElem_mem hi', by rw [← h i hi']; exact hq⟩
  · rintro ⟨x, hx, hp⟩
    obtain ⟨i, hi, rfl⟩ := List.mem_iff_getElem.1 hx
    exact ⟨i, by simpa using hi, by rw [h i hi]; exact hp⟩

/-! ### Two lists side by side -/
def allEq {α β : Type} (p : α → β → Bool) : List α → List β → Bool
  | [], [] => true
  | x :: s, y :: t => p x y && allEq p s t
  | _, _ => false
theorem allEq_len {α β : Type} {p : α → β → Bool} : ∀ {s : List α} {t : List β}, s.length ≠ t.length → allEq p s t = false
  | [], [], h => absurd rfl h
  | [], _ :: _, _ => rfl
  | _ :: _, [], _ => rfl
  | x :: s, y :: t, h => by
    have : s.length ≠ t.length := fun e => h (by simp [e])
    simp [allEq, allEq_len this]
theorem allEq_step {α β : Type} {p : α → β → Bool} {s : List α} {t : List β} {k : Nat} (hs : k < s.length) (ht : k < t.length) (h : p s[k] t[k] = true) : allEq p (s.drop k) (t.drop k) = allEq p (s.drop (k + 1)) (t.drop (k + 1)) := by
  rw [List.drop_eq_getElem_cons hs, List.drop_eq_getElem_cons ht]; simp [allEq, h]
theorem allEq_no {α β : Type} {p : α → β → Bool} {s : List α} {t : List β} {k : Nat} (hs : k < s.length) (ht : k < t.length) (h : p s[k] t[k] = false) : allEq p (s.drop k) (t.drop k) = false := by
  rw [List.drop_eq_getElem_cons hs, List.drop_eq_getElem_cons ht]; simp [allEq, h]
theorem allEq_end {α β : Type} {p : α → β → Bool} {s : List α} {t : List β} {k : Nat} (hs : k = s.length) (h : s.length = t.length) : allEq p (s.drop k) (t.drop k) = true := by
  subst hs; rw [List.drop_length, h, List.drop_length]; rfl
theorem allEq_eq {α : Type} [DecidableEq α] {p : α → α → Bool} (hp : ∀ x y, p x y = decide (x = y)) : ∀ s t : List α, allEq p s t = decide (s = t)
  | [], [] => by simp [allEq]
  | [], _ :: _ => by simp [allEq]
  | _ :: _, [] => by simp [allEq]
  | x :: s, y :: t => by
    simp only [allEq, hp, allEq_eq hp s t]
    by_cases h1 : x = y <;> by_cases h2 : s = t <;> simp [h1, h2]

/-! ### Comparison -/
def cmpI (x y : Int) : Int := if x < y then -1 else if y < x then 1 else 0
def cmpL : List Int → List Int → Int
  | [], [] => 0
  | [], _ :: _ => -1
  | _ :: _, [] => 1
  | x :: s, y :: t => if x < y then -1 else if y < x then 1 else cmpL s t
theorem cmpI_zero {x y : Int} : cmpI x y = 0 ↔ x = y := by
  unfold cmpI
  split
  · omega
  · split <;> omega
theorem cmpI_vals (x y : Int) : cmpI x y = -1 ∧ x < y ∨ cmpI x y = 1 ∧ y < x ∨ cmpI x y = 0 ∧ x = y := by
  unfold cmpI; split
  · left; exact ⟨rfl, by assumption⟩
  · split
    · right; left; exact ⟨rfl, by assumption⟩
    · right; right; exact ⟨rfl, by omega⟩
theorem cmpL_cons (x y : Int) (s t : List Int) : cmpL (x :: s) (y :: t) = if cmpI x y = 0 then cmpL s t else cmpI x y := by
  simp only [cmpL, cmpI]
  by_cases h : x < y
  · simp [h]
  · by_cases h2 : y < x
    · simp [h, h2]
    · simp [h, h2]
theorem cmpL_vals (s t : List Int) : cmpL s t = -1 ∨ cmpL s t = 0 ∨ cmpL s t = 1 := by
  induction s generalizing t with
  | nil => cases t <;> simp [cmpL]
  | cons x s ih =>
    cases t with
    | nil => simp [cmpL]
    | cons y t =>
      rw [cmpL_cons]
      rcases cmpI_vals x y with h | h | h
      · simp [h.1]
      · simp [h.1]
      · simp only [h.1, if_true]; exact ih t
theorem cmpL_zero (s t : List Int) : cmpL s t = 0 ↔ s = t := by
  induction s generalizing t with
  | nil => cases t <;> simp [cmpL]
  | cons x s ih =>
    cases t with
    | nil => simp [cmpL]
    | cons y t =>
      rw [cmpL_cons]
      rcases cmpI_vals x y with h | h | h
      · simp only [h.1]; simp; intro e; omega
      · simp only [h.1]; simp; intro e; omega
      · rw [if_pos h.1, ih t, h.2]; simp
section
variable {s t : List Int} {k : Nat}
theorem cmpL_at (hs : k < s.length) (ht : k < t.length) : cmpL (s.drop k) (t.drop k) = if cmpI s[k] t[k] = 0 then cmpL (s.drop (k + 1)) (t.drop (k + 1)) else cmpI s[k] t[k] := by
  rw [List.drop_eq_getElem_cons hs, List.drop_eq_getElem_cons ht, cmpL_cons]
theorem cmpL_lt (hs : k < s.length) (ht : k < t.length) (h : s[k] < t[k]) : cmpL (s.drop k) (t.drop k) = -1 := by
  rw [cmpL_at hs ht]; have : cmpI s[k] t[k] = -1 := by unfold cmpI; rw [if_pos h]
  rw [this]; rfl
theorem cmpL_gt (hs : k < s.length) (ht : k < t.length) (h : t[k] < s[k]) : cmpL (s.drop k) (t.drop k) = 1 := by
  rw [cmpL_at hs ht]; have : cmpI s[k] t[k] = 1 := by unfold cmpI; rw [if_neg (by omega), if_pos h]
  rw [this]; rfl
theorem cmpL_same (hs : k < s.length) (ht : k < t.length) (h1 : ¬ s[k] < t[k]) (h2 : ¬ t[k] < s[k]) : cmpL (s.drop k) (t.drop k) = cmpL (s.drop (k + 1)) (t.drop (k + 1)) := by
  rw [cmpL_at hs ht]; have : cmpI s[k] t[k] = 0 := by unfold cmpI; rw [if_neg h1, if_neg h2]
  rw [this]; rfl
theorem cmpL_end1 (hs : k = s.length) (h : s.length < t.length) : cmpL (s.drop k) (t.drop k) = -1 := by
  subst hs; rw [List.drop_length, List.drop_eq_getElem_cons h]; rfl
theorem cmpL_end2 (ht : k = t.length) (h : t.length < s.length) : cmpL (s.drop k) (t.drop k) = 1 := by
  subst ht; rw [List.drop_length, List.drop_eq_getElem_cons h]; rfl
theorem cmpL_end3 (hs : k = s.length) (h : s.length = t.length) : cmpL (s.drop k) (t.drop k) = 0 := by
  subst hs; rw [List.drop_length, h, List.drop_length]; rfl
end
def cmpFact (a b : FactD) : Int := if cmpI a.rel b.rel = 0 then cmpL a.vals b.vals else cmpI a.rel b.rel
theorem cmpFact_zero (a b : FactD) : cmpFact a b = 0 ↔ a = b := by
  unfold cmpFact
  rcases cmpI_vals a.rel b.rel with h | h | h
  · simp only [h.1]; simp; intro e; rw [e] at h; omega
  · simp only [h.1]; simp; intro e; rw [e] at h; omega
  · simp only [h.1, if_true, cmpL_zero]
    constructor
    · intro e; cases a; cases b; simp_all
    · intro e; rw [e]

/-- Is a number in a list. -/
def memB (l : List Int) (x : Int) : Bool := l.contains x
theorem memB_iff {l : List Int} {x : Int} : memB l x = true ↔ x ∈ l := List.contains_iff_mem

/-! ### Facts, atoms, methods, accesses -/
/-- The arity that a schema gives a relation. -/
def arity (s : List Int) (r : Int) : Int := s.getD r.toNat 0
/-- Is it a relation of the schema. -/
def hasRelB (s : List Int) (r : Int) : Bool := schemaB s && inR r 0 ((s.length : Int) - 1)
def factB (s : List Int) (x : FactD) : Bool := hasRelB s x.rel && decide ((x.vals.length : Int) = arity s x.rel) && !(x.vals.any fun n => !isVal n)
def atomB (s : List Int) (x : AtomD) : Bool := hasRelB s x.rel && decide ((x.terms.length : Int) = arity s x.rel) && !(x.terms.any fun n => !isTermB n)
/-- What is wrong at a place of a list of facts. -/
def factsBad (s : List Int) (l : List FactD) (i : Nat) : Bool := !factB s (l.getD i ⟨0, []⟩) || (decide (0 < i) && decide (0 ≤ cmpFact (l.getD (i - 1) ⟨0, []⟩) (l.getD i ⟨0, []⟩)))
def factsB (s : List Int) (l : List FactD) : Bool := !anyN l.length (factsBad s l) && schemaB s && decide (l.length ≤ 24)
def hasFactB (l : List FactD) (x : FactD) : Bool := l.any fun y => decide (cmpFact y x = 0)
theorem anyN_or (n : Nat) (p q : Nat → Bool) : anyN n (fun i => p i || q i) = (anyN n p || anyN n q) := by
  unfold anyN
  rw [Bool.eq_iff_iff]
  simp only [List.any_eq_true, Bool.or_eq_true]
  constructor
  · rintro ⟨i, hi, h | h⟩
    · exact .inl ⟨i, hi, h⟩
    · exact .inr ⟨i, hi, h⟩
  · rintro (⟨i, hi, h⟩ | ⟨i, hi, h⟩)
    · exact ⟨i, hi, .inl h⟩
    · exact ⟨i, hi, .inr h⟩
theorem anyN_congr {n : Nat} {p q : Nat → Bool} (h : ∀ i, i < n → p i = q i) : anyN n p = anyN n q := by
  unfold anyN
  rw [Bool.eq_iff_iff, List.any_eq_true, List.any_eq_true]
  constructor <;> rintro ⟨i, hi, hp⟩ <;> exact ⟨i, hi, by have := h i (by simpa using hi); simp_all⟩
theorem getD_lt {α : Type} {l : List α} {d : α} {i : Nat} (h : i < l.length) : l.getD i d = l[i] := by simp [List.getD, List.getElem?_eq_getElem h]
/-- Is a list not strictly ascending at a place. -/
def ascBad (l : List Int) (i : Nat) : Bool := decide (0 < i) && decide (l.getD i 0 ≤ l.getD (i - 1) 0)
def ascB (l : List Int) : Bool := !anyN l.length (ascBad l)
/-- Are the numbers of a method in their ranges, at an arity. -/
def numsB (m : MethD) : Bool := inR m.limit 0 9 && inR m.cost 0 99 && inR m.quota 1 99
def fitsB (m : MethD) (a : Int) : Bool := ascB m.inputs && !(m.inputs.any fun i => !inR i 0 (a - 1)) && numsB m
def inputBad (m : MethD) (a : Int) (i : Nat) : Bool := !inR (m.inputs.getD i 0) 0 (a - 1) || ascBad m.inputs i
theorem fitsB_eq (m : MethD) (a : Int) : fitsB m a = (numsB m && !anyN m.inputs.length (inputBad m a)) := by
  have h : anyN m.inputs.length (inputBad m a) = (anyN m.inputs.length (fun i => !inR (m.inputs.getD i 0) 0 (a - 1)) || anyN m.inputs.length (ascBad m.inputs)) := anyN_or _ _ _
  have h2 : anyN m.inputs.length (fun i => !inR (m.inputs.getD i 0) 0 (a - 1)) = m.inputs.any fun i => !inR i 0 (a - 1) := anyN_list _ _ _ fun i hi => by simp only [getD_lt hi]
  rw [h, h2]
  unfold fitsB ascB
  cases anyN m.inputs.length (ascBad m.inputs) <;> cases (m.inputs.any fun i => !inR i 0 (a - 1)) <;> cases numsB m <;> rfl
def methB (s : List Int) (m : MethD) : Bool := hasRelB s m.rel && fitsB m (arity s m.rel)
def methsB (s : List Int) (l : List MethD) : Bool := schemaB s && decide (l.length ≤ 5) && !(l.any fun m => !methB s m)
def methAt (l : List MethD) (i : Int) : MethD := l.getD i.toNat ⟨0, [], 0, 0, 0⟩
def inBad (a : AtomD) (bound : List Int) (i : Int) : Bool := !inR i 0 ((a.terms.length : Int) - 1) || (isVarB (a.terms.getD i.toNat 0) && !memB bound (a.terms.getD i.toNat 0))
def canCallB (m : MethD) (a : AtomD) (bound : List Int) : Bool := decide (m.rel = a.rel) && !(m.inputs.any (inBad a bound))
/-- What a method costs. -/
def costB (l : List MethD) (i : Int) : Int := if inR i 0 ((l.length : Int) - 1) && inR (methAt l i).cost 0 99 then (methAt l i).cost else 0
/-- The value that two lists side by side give a variable. -/
def lookL : List Int → List Int → Int → Int
  | v :: vs, x :: xs, t => if v = t then x else lookL vs xs t
  | _, _, _ => -1
def boundL : List Int → List Int → Int → Bool
  | v :: vs, _ :: xs, t => if v = t then true else boundL vs xs t
  | _, _, _ => false
theorem lookL_at {vs xs : List Int} {t : Int} {k : Nat} (h1 : k < vs.length) (h2 : k < xs.length) : lookL (vs.drop k) (xs.drop k) t = if vs[k] = t then xs[k] else lookL (vs.drop (k + 1)) (xs.drop (k + 1)) t := by
  rw [List.drop_eq_getElem_cons h1, List.drop_eq_getElem_cons h2]; rfl
theorem lookL_end {vs xs : List Int} {t : Int} {k : Nat} (h : vs.length ≤ k ∨ xs.length ≤ k) : lookL (vs.drop k) (xs.drop k) t = -1 := by
  rcases h with h | h
  · rw [List.drop_eq_nil_of_le h]; cases xs.drop k <;> rfl
  · rw [List.drop_eq_nil_of_le h]; cases vs.drop k <;> rfl
theorem boundL_at {vs xs : List Int} {t : Int} {k : Nat} (h1 : k < vs.length) (h2 : k < xs.length) : boundL (vs.drop k) (xs.drop k) t = if vs[k] = t then true else boundL (vs.drop (k + 1)) (xs.drop (k + 1)) t := by
  rw [List.drop_eq_getElem_cons h1, List.drop_eq_getElem_cons h2]; rfl
theorem boundL_end {vs xs : List Int} {t : Int} {k : Nat} (h : vs.length ≤ k ∨ xs.length ≤ k) : boundL (vs.drop k) (xs.drop k) t = false := by
  rcases h with h | h
  · rw [List.drop_eq_nil_of_le h]; cases xs.drop k <;> rfl
  · rw [List.drop_eq_nil_of_le h]; cases vs.drop k <;> rfl
/-- The place in the shorter of two lists. -/
def entryL (vs xs : List Int) (t : Int) : Int := idxI (fun y => t == y) (vs.take (min vs.length xs.length))
end Go.Proofs.YtpdmdfkcaabnaaaGreat
