/- MatchAtom of the program and of the reference in one form: a binding and whether it is one; boxes that a region lays at whatever time. Condition: lengths within 2^20. -/
import Derived.Test.YtapapnaljjnhnaaMatI
namespace Go.Proofs.Ytapapnaljjnhnaa
open Go.RowKit
set_option linter.unusedVariables false
set_option linter.unusedSimpArgs false
def matchR (b : BindD) (a : AtomD) (f : FactD) : BindD × Bool := match matchB b a f with
  | some c => (c, true)
  | none => (⟨[], []⟩, false)
theorem matchR_some {b c : BindD} {a : AtomD} {f : FactD} (h : matchB b a f = some c) : matchR b a f = (c, true) := by unfold matchR; rw [h]
theorem matchR_none {b : BindD} {a : AtomD} {f : FactD} (h : matchB b a f = none) : matchR b a f = (⟨[], []⟩, false) := by unfold matchR; rw [h]
theorem matchL_lens : ∀ (ts vs : List Int) (b c : BindD), matchL ts vs b = some c → c.vars.length ≤ b.vars.length + ts.length ∧ c.vals.length ≤ b.vals.length + ts.length := by
  intro ts
  induction ts with
  | nil =>
    intro vs b c h
    cases vs <;> · unfold matchL at h; cases h; simp
  | cons t ts ih =>
    intro vs b c h
    cases vs with
    | nil => unfold matchL at h; cases h; simp
    | cons v vs =>
      unfold matchL at h
      split at h
      · have := ih _ _ _ h; simp at this ⊢; omega
      · split at h
        · have := ih _ _ _ h; simp; omega
        · cases h
theorem matchR_len (b : BindD) (a : AtomD) (f : FactD) : (matchR b a f).1.vars.length ≤ b.vars.length + a.terms.length ∧ (matchR b a f).1.vals.length ≤ b.vals.length + a.terms.length := by
  cases h : matchB b a f with
  | none => rw [matchR_none h]; simp
  | some c =>
    rw [matchR_some h]
    unfold matchB at h
    split at h
    · exact matchL_lens _ _ _ _ h
    · cases h
theorem ma_r {P : Program} {fn : FuncId} {args : Array Value} {b : BindD} {a : AtomD} {f : FactD} {w : World} (h : Calls P fn args w (MaEnd (matchB b a f) w)) :
    Calls P fn args w fun e w' => ∃ v1 v2 f1 f2, e = .returned (.tuple #[.agg #[v1, v2], .bool (matchR b a f).2]) ∧ ints w' v1 (matchR b a f).1.vars f1 ∧ ints w' v2 (matchR b a f).1.vals f2 ∧ Fresh w.heap.size (f1 ++ f2) ∧ Below w.heap.size w w' := by
  refine h.mono ?_
  rintro e w' (⟨h1, rfl, hb⟩ | ⟨c, v1, v2, f1, f2, h1, rfl, i1, i2, hf, hb⟩)
  · rw [matchR_none h1]
    exact ⟨_, _, [], [], rfl, slR.nilv _ _ _ _, slR.nilv _ _ _ _, Fresh.nil _, hb⟩
  · rw [matchR_some h1]
    exact ⟨v1, v2, f1, f2, rfl, i1, i2, hf, hb⟩
theorem specMatchR_any (b : BindD) (a : AtomD) (f : FactD) (vv va vt vx : Value) (fv fa ft fx : List Nat) (w : World) (hv : ints w vv b.vars fv) (ha : ints w va b.vals fa) (ht : ints w vt a.terms ft) (hx : ints w vx f.vals fx) (hn : b.vars.length + a.terms.length ≤ 1048576) (hn2 : b.vals.length ≤ 1048576) :
    Calls Try.prog 7 #[.agg #[vv, va], .agg #[.int .i64 a.rel, vt], .agg #[.int .i64 f.rel, vx]] w fun e w' => ∃ v1 v2 f1 f2, e = .returned (.tuple #[.agg #[v1, v2], .bool (matchR b a f).2]) ∧ ints w' v1 (matchR b a f).1.vars f1 ∧ ints w' v2 (matchR b a f).1.vals f2 ∧ Fresh w.heap.size (f1 ++ f2) ∧ Below w.heap.size w w' :=
  ma_r (specMatchAtom_any b a f vv va vt vx fv fa ft fx w hv ha ht hx hn hn2)
theorem implMatchR_any (b : BindD) (a : AtomD) (f : FactD) (vv va vt vx : Value) (fv fa ft fx : List Nat) (w : World) (hv : ints w vv b.vars fv) (ha : ints w va b.vals fa) (ht : ints w vt a.terms ft) (hx : ints w vx f.vals fx) (hn : b.vars.length + a.terms.length ≤ 1048576) (hn2 : b.vals.length ≤ 1048576) :
    Calls Try.prog 11 #[.agg #[vv, va], .agg #[.int .i64 a.rel, vt], .agg #[.int .i64 f.rel, vx]] w fun e w' => ∃ v1 v2 f1 f2, e = .returned (.tuple #[.agg #[v1, v2], .bool (matchR b a f).2]) ∧ ints w' v1 (matchR b a f).1.vars f1 ∧ ints w' v2 (matchR b a f).1.vals f2 ∧ Fresh w.heap.size (f1 ++ f2) ∧ Below w.heap.size w w' :=
  ma_r (implMatchAtom_any b a f vv va vt vx fv fa ft fx w hv ha ht hx hn hn2)
/-- A box that a region lays for a pair of rows. -/
def MrBox (w3 wr : World) (g : Nat) (v1 v2 : Value) (l1 l2 : List Int) (f1 f2 : List Nat) : Prop :=
  (wr.cell? ⟨g, 0, none⟩ = some v1 ∧ wr.cell? ⟨g, 1, none⟩ = some v2) ∧ ints wr v1 l1 f1 ∧ ints wr v2 l2 f2 ∧ Below w3.heap.size w3 wr
theorem mr_early {w3 W w7 : World} {g : Nat} {n1 n2 v1 v2 : Value} {l1 l2 : List Int} {f1 f2 : List Nat} (T : Two W g n1 n2) (hg : w3.heap.size ≤ g) (hb : Below W.heap.size W w7) (h1 : ints w7 v1 l1 f1) (h2 : ints w7 v2 l2 f2) (fr : Fresh W.heap.size (f1 ++ f2)) (h3 : Below w3.heap.size w3 w7) :
    MrBox w3 ((w7.setCell ⟨g, 0, none⟩ v1).setCell ⟨g, 1, none⟩ v2) g v1 v2 l1 l2 f1 f2 := by
  have hl := T.lt
  have hn : g ∉ f1 ++ f2 := fr.notin hl
  rw [List.mem_append, not_or] at hn
  exact ⟨((T.below hb).set v1 v2).1, ints_two2 h1 hn.1 _ _, ints_two2 h2 hn.2 _ _, below_two2 h3 hg _ _⟩
theorem mr_late {w3 w7 : World} {t : TypeId} {n1 n2 v1 v2 : Value} {l1 l2 : List Int} {f1 f2 : List Nat} (h1 : ints w7 v1 l1 f1) (h2 : ints w7 v2 l2 f2) (h3 : Below w3.heap.size w3 w7) :
    MrBox w3 (((w7.alloc (.cells #[n1, n2] t)).setCell ⟨w7.heap.size, 0, none⟩ v1).setCell ⟨w7.heap.size, 1, none⟩ v2) w7.heap.size v1 v2 l1 l2 f1 f2 := by
  have hn1 : w7.heap.size ∉ f1 := fun h => Nat.lt_irrefl _ (h1.lt _ h)
  have hn2 : w7.heap.size ∉ f2 := fun h => Nat.lt_irrefl _ (h2.lt _ h)
  exact ⟨((Two.new w7 t n1 n2).set v1 v2).1, ints_two2 (h1.below' (ba (Below.refl _ _))) hn1 _ _, ints_two2 (h2.below' (ba (Below.refl _ _))) hn2 _ _, below_two2 (ba h3) h3.size _ _⟩
theorem mr_late2 {w3 w7 : World} {t : TypeId} {v1 v2 : Value} {l1 l2 : List Int} {f1 f2 : List Nat} (h1 : ints w7 v1 l1 f1) (h2 : ints w7 v2 l2 f2) (h3 : Below w3.heap.size w3 w7) :
    MrBox w3 (w7.alloc (.cells #[v1, v2] t)) w7.heap.size v1 v2 l1 l2 f1 f2 :=
  ⟨(Two.new w7 t v1 v2).1, h1.below' (ba (Below.refl _ _)), h2.below' (ba (Below.refl _ _)), ba h3⟩
theorem lt_grow {W w : World} (h : Below W.heap.size W w) : ∀ j, j < W.heap.size → j < w.heap.size := fun j hj => Nat.lt_of_lt_of_le hj h.size
end Go.Proofs.Ytapapnaljjnhnaa
