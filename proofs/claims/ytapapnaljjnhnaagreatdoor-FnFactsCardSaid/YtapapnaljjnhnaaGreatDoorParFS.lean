/- ParseFact of the reference: it returns what 'FactIs' says. Condition: the text is no longer than 2^20. -/
import Derived.Test.YtapapnaljjnhnaaGreatDoorCallS
import Derived.Test.YtapapnaljjnhnaaGreatDoorTwo
import Derived.Test.YtapapnaljjnhnaaGreatDoorMC
import Derived.Deep.RegionLaw
namespace Go.Proofs.YtapapnaljjnhnaaGreatDoor
open Go.RowKit
set_option linter.unusedVariables false
set_option linter.unusedSimpArgs false
/-- What parsing a fact ends in. -/
def PfEnd (s : List Int) (t : List UInt8) (w : World) (e : Ending) (w' : World) : Prop :=
  ∃ (x : FactD) (k : Bool) (vi : Value) (fi : List Nat), e = .returned (.tuple #[.agg #[.int .i64 x.rel, vi], .bool k]) ∧ FactIs s t x k ∧ ints w' vi x.vals fi ∧ Fresh w.heap.size fi ∧ Below w.heap.size w w'
theorem PfEnd.no {s : List Int} {t : List UInt8} {w : World} {e : Ending} {w' : World} (he : e = .returned (.tuple #[.agg #[.int .i64 0, .slice none 0 0], .bool false])) (h : ∀ n, factB s n = true → factFS n ≠ t) (hb : Below w.heap.size w w') : PfEnd s t w e w' :=
  ⟨⟨0, []⟩, false, _, [], he, .inr ⟨h, rfl, rfl⟩, slR.nilv _ _ _ _, Fresh.nil _, hb⟩
theorem PfEnd.yes {s : List Int} {t : List UInt8} {w : World} {e : Ending} {w' : World} (x : FactD) (vi : Value) (fi : List Nat) (he : e = .returned (.tuple #[.agg #[.int .i64 x.rel, vi], .bool true])) (h : factB s x = true) (h3 : factFS x = t) (hi : ints w' vi x.vals fi) (hf : Fresh w.heap.size fi) (hb : Below w.heap.size w w') : PfEnd s t w e w' :=
  ⟨x, true, vi, fi, he, .inl ⟨h, h3, rfl⟩, hi, hf, hb⟩
theorem FactIs.small {s : List Int} {t : List UInt8} {x : FactD} {k : Bool} (h : FactIs s t x k) (ht : t.length ≤ 1048576) : x.vals.length ≤ 3 := by
  rcases h with ⟨h2, _, _⟩ | ⟨_, rfl, _⟩
  · have := inR_true (factFB_parts (fact_fmt h2)).2.1; omega
  · simp
theorem load_fact {w : World} {g : Nat} {a b : Value} (h : Two w g a b) : (loadVar 79 ⟨g, 0, none⟩).run Tryz.prog w = .ok (.agg #[a, b]) w := load2 h Tryz.underlying79 rfl (by kernel_rfl)
theorem load_fact2 {w : World} {g : Nat} {a b : Value} (h : Two w g a b) (a' b' : Value) : (loadVar 79 ⟨g, 0, none⟩).run Tryz.prog ((w.setCell ⟨g, 0, none⟩ a').setCell ⟨g, 1, none⟩ b') = .ok (.agg #[a', b']) ((w.setCell ⟨g, 0, none⟩ a').setCell ⟨g, 1, none⟩ b') := load_fact (h.set a' b')
theorem SX.of_grown {w w' : World} {o : Option Nat} (h : w.grownBy w' o) : SX o.toList w w' := ⟨h.size, fun j hj hn => h.block j hj (by intro e; subst e; simp at hn)⟩
theorem own_not {o : Option Nat} {B g : Nat} (h : ∀ j, o = some j → B ≤ j) (hg : g < B) : g ∉ o.toList := by
  intro hm
  cases o with
  | none => simp at hm
  | some j => simp at hm; subst hm; have := h _ rfl; omega
theorem gr_base {α : Type} {E : TypeId} {sz B : Nat} {R : Rd α} {w : World} {v : Value} {l : List α} {f : List Nat} (h : grR E sz R B w v l f) : ∀ j, v.ownBlock = some j → B ≤ j := by
  obtain ⟨_, _, _, _, ho, _, _⟩ := h
  exact fun j hj => (own_lt ho j hj).1
theorem arr_sz (l : List UInt8) (h : l.length ≤ 1048576) : (⟨l.toArray⟩ : ByteArray).size ≤ 1048576 := by simpa [ByteArray.size] using h
theorem fact_no1 {s : List Int} {t : List UInt8} {x : FactD} (h : (factB s x = false ∨ factFS x ≠ t) → ∀ n, factB s n = true → factFS n ≠ t) (hx : factB s x = false) : ∀ n, factB s n = true → factFS n ≠ t := h (.inl hx)
theorem fact_no2 {s : List Int} {t : List UInt8} {x : FactD} (h : (factB s x = false ∨ factFS x ≠ t) → ∀ n, factB s n = true → factFS n ≠ t) (hx : factFS x ≠ t) : ∀ n, factB s n = true → factFS n ≠ t := h (.inr hx)
end Go.Proofs.YtapapnaljjnhnaaGreatDoor
