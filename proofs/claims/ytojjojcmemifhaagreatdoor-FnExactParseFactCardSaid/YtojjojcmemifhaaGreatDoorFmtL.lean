/- Plain laws: joined texts and their lengths. No condition, no program in sight. -/
import Derived.Test.YtojjojcmemifhaaGreatDoorCalc
import Derived.Lib.ItoaNum
import Derived.Lib.ItoaLen
import Derived.Lib.Join
namespace Go.Proofs.YtojjojcmemifhaaGreatDoor
open Go.RowKit
set_option linter.unusedVariables false
set_option linter.unusedSimpArgs false
theorem join_nil (sep : List UInt8) : Lib.join [] sep = [] := rfl
theorem join_single (x sep : List UInt8) : Lib.join [x] sep = x := by simp [Lib.join, List.intercalate, List.intersperse]
theorem join_cons (x y : List UInt8) (t : List (List UInt8)) (sep : List UInt8) : Lib.join (x :: y :: t) sep = x ++ sep ++ Lib.join (y :: t) sep := by
  simp [Lib.join, List.intercalate, List.intersperse]
theorem join_snoc (x : List UInt8) (sep : List UInt8) : ∀ (xs : List (List UInt8)), xs ≠ [] → Lib.join (xs ++ [x]) sep = Lib.join xs sep ++ sep ++ x
  | [], h => absurd rfl h
  | [y], _ => by rw [join_single]; exact (join_cons y x [] sep).trans (by rw [join_single])
  | y :: z :: t, _ => by
    have ih := join_snoc x sep (z :: t) (by simp)
    rw [List.cons_append, List.cons_append, join_cons, join_cons]
    rw [List.cons_append] at ih
    rw [ih]; simp
theorem join_length_le (sep : List UInt8) (B : Nat) : ∀ (xs : List (List UInt8)), (∀ x ∈ xs, x.length ≤ B) → (Lib.join xs sep).length ≤ xs.length * (B + sep.length)
  | [], _ => by simp [join_nil]
  | [y], h => by rw [join_single]; have := h y (by simp); simp; omega
  | y :: z :: t, h => by
    have ih := join_length_le sep B (z :: t) (fun x hx => h x (by simp only [List.mem_cons] at hx ⊢; exact .inr hx))
    rw [join_cons]
    have := h y (by simp)
    simp only [List.length_append, List.length_cons] at ih ⊢
    rw [Nat.succ_mul]
    omega
/-- The head of a list, one more: joined. -/
theorem join_take {α : Type} (f : α → List UInt8) (sep : List UInt8) {l : List α} {k : Nat} (hk : k < l.length) :
    Lib.join ((l.take (k + 1)).map f) sep = if k = 0 then f l[k] else Lib.join ((l.take k).map f) sep ++ sep ++ f l[k] := by
  rw [List.take_succ_eq_append_getElem hk, List.map_append, List.map_cons, List.map_nil]
  by_cases h : k = 0
  · subst h; simp [join_single]
  · rw [if_neg h, join_snoc]
    intro e
    have := congrArg List.length e
    simp only [List.length_map, List.length_take, List.length_nil] at this
    omega
def itoaLen : Nat := 21
theorem itoa_le {n : Int} (h : I64 n) : (Lib.itoa n).length ≤ 21 := Lib.itoa_length_le n h.1 h.2
/-- Numbers, separated. -/
def listS (l : List Int) (by_ : List UInt8) : List UInt8 := Lib.join (l.map Lib.itoa) by_
theorem listS_len {l : List Int} (by_ : List UInt8) (hI : ∀ x ∈ l, I64 x) : (listS l by_).length ≤ l.length * (21 + by_.length) := by
  have := join_length_le by_ 21 (l.map Lib.itoa) (by intro x hx; obtain ⟨n, hn, rfl⟩ := List.mem_map.1 hx; exact itoa_le (hI n hn))
  simpa [listS] using this
theorem listS_take {l : List Int} (by_ : List UInt8) {k : Nat} (hk : k < l.length) : listS (l.take (k + 1)) by_ = if k = 0 then Lib.itoa l[k] else listS (l.take k) by_ ++ by_ ++ Lib.itoa l[k] := join_take _ _ hk
end Go.Proofs.YtojjojcmemifhaaGreatDoor
