/- The data of the program in plain terms, and how each reads off memory: '..R', '..s': what the program's own functions make, with the blocks in which it lies; '..W': as it came in. No condition. -/
import Derived.Test.YtapapnaljjnhnaaOwn
namespace Go.Proofs.Ytapapnaljjnhnaa
open Go.RowKit
set_option linter.unusedVariables false
set_option linter.unusedSimpArgs false

/-! ### As it came in: a slice at any place of its block -/
abbrev RdW (α : Type) := World → List Value → α → Prop
structure GoodW {α : Type} (R : RdW α) : Prop where
  keep : ∀ {w w' : World} {cs : List Value} {d : α}, R w cs d → Below w.heap.size w w' → R w' cs d
def slW {α : Type} (sz : Nat) (R : RdW α) (w : World) (v : Value) (l : List α) : Prop :=
  ∃ a cap, v = .slice a l.length cap ∧ l.length ≤ maxLen ∧ ∀ i (hi : i < l.length), ∃ b off c, a = some ⟨b, off, none⟩ ∧ c.length = sz ∧ (∀ j u, c[j]? = some u → w.cell? ⟨b, off + i * sz + j, none⟩ = some u) ∧ R w c l[i]
theorem cell_below {w w' : World} {a : Addr} {u : Value} (h : w.cell? a = some u) (hb : Below w.heap.size w w') : w'.cell? a = some u :=
  (World.cell?_of_block (hb.block a.block (World.block_lt_of_cell? w a h))).trans h
theorem slW.below {α : Type} {sz : Nat} {R : RdW α} (hR : GoodW R) {w w' : World} {v : Value} {l : List α} (h : slW sz R w v l) (hb : Below w.heap.size w w') : slW sz R w' v l := by
  obtain ⟨a, cap, hv, hm, h⟩ := h
  refine ⟨a, cap, hv, hm, fun i hi => ?_⟩
  obtain ⟨b, off, c, ha, hl, hc, hr⟩ := h i hi
  exact ⟨b, off, c, ha, hl, fun j u hj => cell_below (hc j u hj) hb, hR.keep hr hb⟩
theorem slW.form {α : Type} {sz : Nat} {R : RdW α} {w : World} {v : Value} {l : List α} (h : slW sz R w v l) : ∃ a cap, v = .slice a l.length cap := by
  obtain ⟨a, cap, hv, _⟩ := h; exact ⟨a, cap, hv⟩
theorem slW.le_max {α : Type} {sz : Nat} {R : RdW α} {w : World} {v : Value} {l : List α} (h : slW sz R w v l) : l.length ≤ 9223372036854775807 := by
  obtain ⟨a, cap, hv, hm, _⟩ := h; exact hm
theorem slW.at {α : Type} {sz : Nat} {R : RdW α} {w : World} {a : Option Addr} {n cap : Nat} {l : List α} (h : slW sz R w (.slice a n cap) l) (i : Nat) (hi : i < l.length) :
    ∃ b off c, a = some ⟨b, off, none⟩ ∧ c.length = sz ∧ (∀ j u, c[j]? = some u → w.cell? ⟨b, off + i * sz + j, none⟩ = some u) ∧ R w c l[i] := by
  obtain ⟨a', cap', hv, hm, h⟩ := h
  cases hv
  exact h i hi
def intW : RdW Int := fun _ cs d => cs = [.int .i64 d] ∧ I64 d
theorem goodW_int : GoodW intW := ⟨fun h _ => h⟩
def elW {α : Type} (sz : Nat) (R : RdW α) : RdW (List α) := fun w cs l => ∃ v, cs = [v] ∧ slW sz R w v l
theorem goodW_el {α : Type} {sz : Nat} {R : RdW α} (hR : GoodW R) : GoodW (elW sz R) := ⟨fun ⟨v, hv, h⟩ hb => ⟨v, hv, h.below hR hb⟩⟩

/-- A slice value that reads as a list of Int. -/
def ints (w : World) (v : Value) (l : List Int) (f : List Nat) : Prop := slR 3 1 intR w v l f
def intsR : Rd (List Int) := fun w cs l f => ∃ v, cs = [v] ∧ ints w v l f
theorem good_ints : Good intsR := good_el good_int
def intsV (w : World) (v : Value) (l : List Int) : Prop := slW 1 intW w v l
def intsW : RdW (List Int) := fun w cs l => ∃ v, cs = [v] ∧ intsV w v l
theorem goodW_ints : GoodW intsW := goodW_el goodW_int
section
variable {w w' : World} {v : Value} {l : List Int} {f : List Nat}
theorem ints.below' (h : ints w v l f) (hb : Below w.heap.size w w') : ints w' v l f := slR.below' good_int h hb
theorem ints.below {B : Nat} (h : ints w v l f) (hb : Below B w w') (hf : ∀ g ∈ f, g < B) : ints w' v l f := slR.below good_int h hb hf
theorem ints.frame (h : ints w v l f) (hf : ∀ g ∈ f, w'.heap[g]? = w.heap[g]?) : ints w' v l f := slR.frame good_int h hf
theorem ints.far (h : ints w v l f) {p : Addr} (hp : p.block ∉ f) (u : Value) : ints (w.setCell p u) v l f := slR.far good_int h hp u
theorem ints.lt (h : ints w v l f) : ∀ g ∈ f, g < w.heap.size := slR.lt good_int h
theorem intsV.below' (h : intsV w v l) (hb : Below w.heap.size w w') : intsV w' v l := slW.below goodW_int h hb
end

structure FactD where
  rel : Int
  vals : List Int
structure AtomD where
  rel : Int
  terms : List Int
structure BindD where
  vars : List Int
  vals : List Int
structure AccD where
  meth : Int
  vals : List Int
structure StepD where
  atom : Int
  meth : Int
structure MethD where
  rel : Int
  inputs : List Int
  limit : Int
  cost : Int
  quota : Int
structure QueryD where
  head : List Int
  atoms : List AtomD
def factR : Rd FactD := fun w cs d f => ∃ vvals, cs = [.int .i64 d.rel, vvals] ∧ I64 d.rel ∧ ints w vvals d.vals f
def factW : RdW FactD := fun w cs d => ∃ vvals, cs = [.int .i64 d.rel, vvals] ∧ I64 d.rel ∧ intsV w vvals d.vals
theorem good_fact : Good factR := by
  constructor
  · intro w w' cs d f h hfr
    obtain ⟨vvals, hc, irel, hvals⟩ := h
    exact ⟨vvals, hc, irel, hvals.frame fun g hg => hfr g (by simp [hg])⟩
  · intro w cs d f h g hg
    obtain ⟨vvals, hc, irel, hvals⟩ := h
    exact hvals.lt g hg
theorem goodW_fact : GoodW factW := by
  refine ⟨fun {w w'} {cs} {d} h hb => ?_⟩
  obtain ⟨vvals, hc, irel, hvals⟩ := h
  exact ⟨vvals, hc, irel, hvals.below' hb⟩

/-- A slice value that reads as a list of FactD. -/
def facts (w : World) (v : Value) (l : List FactD) (f : List Nat) : Prop := slR 38 2 factR w v l f
def factsR : Rd (List FactD) := fun w cs l f => ∃ v, cs = [v] ∧ facts w v l f
theorem good_facts : Good factsR := good_el good_fact
def factsV (w : World) (v : Value) (l : List FactD) : Prop := slW 2 factW w v l
def factsW : RdW (List FactD) := fun w cs l => ∃ v, cs = [v] ∧ factsV w v l
theorem goodW_facts : GoodW factsW := goodW_el goodW_fact
section
variable {w w' : World} {v : Value} {l : List FactD} {f : List Nat}
theorem facts.below' (h : facts w v l f) (hb : Below w.heap.size w w') : facts w' v l f := slR.below' good_fact h hb
theorem facts.below {B : Nat} (h : facts w v l f) (hb : Below B w w') (hf : ∀ g ∈ f, g < B) : facts w' v l f := slR.below good_fact h hb hf
theorem facts.frame (h : facts w v l f) (hf : ∀ g ∈ f, w'.heap[g]? = w.heap[g]?) : facts w' v l f := slR.frame good_fact h hf
theorem facts.far (h : facts w v l f) {p : Addr} (hp : p.block ∉ f) (u : Value) : facts (w.setCell p u) v l f := slR.far good_fact h hp u
theorem facts.lt (h : facts w v l f) : ∀ g ∈ f, g < w.heap.size := slR.lt good_fact h
theorem factsV.below' (h : factsV w v l) (hb : Below w.heap.size w w') : factsV w' v l := slW.below goodW_fact h hb
end

def atomR : Rd AtomD := fun w cs d f => ∃ vterms, cs = [.int .i64 d.rel, vterms] ∧ I64 d.rel ∧ ints w vterms d.terms f
def atomW : RdW AtomD := fun w cs d => ∃ vterms, cs = [.int .i64 d.rel, vterms] ∧ I64 d.rel ∧ intsV w vterms d.terms
theorem good_atom : Good atomR := by
  constructor
  · intro w w' cs d f h hfr
    obtain ⟨vterms, hc, irel, hterms⟩ := h
    exact ⟨vterms, hc, irel, hterms.frame fun g hg => hfr g (by simp [hg])⟩
  · intro w cs d f h g hg
    obtain ⟨vterms, hc, irel, hterms⟩ := h
    exact hterms.lt g hg
theorem goodW_atom : GoodW atomW := by
  refine ⟨fun {w w'} {cs} {d} h hb => ?_⟩
  obtain ⟨vterms, hc, irel, hterms⟩ := h
  exact ⟨vterms, hc, irel, hterms.below' hb⟩

/-- A slice value that reads as a list of AtomD. -/
def atoms (w : World) (v : Value) (l : List AtomD) (f : List Nat) : Prop := slR 36 2 atomR w v l f
def atomsR : Rd (List AtomD) := fun w cs l f => ∃ v, cs = [v] ∧ atoms w v l f
theorem good_atoms : Good atomsR := good_el good_atom
def atomsV (w : World) (v : Value) (l : List AtomD) : Prop := slW 2 atomW w v l
def atomsW : RdW (List AtomD) := fun w cs l => ∃ v, cs = [v] ∧ atomsV w v l
theorem goodW_atoms : GoodW atomsW := goodW_el goodW_atom
section
variable {w w' : World} {v : Value} {l : List AtomD} {f : List Nat}
theorem atoms.below' (h : atoms w v l f) (hb : Below w.heap.size w w') : atoms w' v l f := slR.below' good_atom h hb
theorem atoms.below {B : Nat} (h : atoms w v l f) (hb : Below B w w') (hf : ∀ g ∈ f, g < B) : atoms w' v l f := slR.below good_atom h hb hf
theorem atoms.frame (h : atoms w v l f) (hf : ∀ g ∈ f, w'.heap[g]? = w.heap[g]?) : atoms w' v l f := slR.frame good_atom h hf
theorem atoms.far (h : atoms w v l f) {p : Addr} (hp : p.block ∉ f) (u : Value) : atoms (w.setCell p u) v l f := slR.far good_atom h hp u
theorem atoms.lt (h : atoms w v l f) : ∀ g ∈ f, g < w.heap.size := slR.lt good_atom h
theorem atomsV.below' (h : atomsV w v l) (hb : Below w.heap.size w w') : atomsV w' v l := slW.below goodW_atom h hb
end

def bindR : Rd BindD := fun w cs d f => ∃ vvars vvals fvars fvals, cs = [vvars, vvals] ∧ f = fvars ++ fvals ∧ ints w vvars d.vars fvars ∧ ints w vvals d.vals fvals
def bindW : RdW BindD := fun w cs d => ∃ vvars vvals, cs = [vvars, vvals] ∧ intsV w vvars d.vars ∧ intsV w vvals d.vals
theorem good_bind : Good bindR := by
  constructor
  · intro w w' cs d f h hfr
    obtain ⟨vvars, vvals, fvars, fvals, hc, hf, hvars, hvals⟩ := h
    exact ⟨vvars, vvals, fvars, fvals, hc, hf, hvars.frame fun g hg => hfr g (by simp [hf, hg]), hvals.frame fun g hg => hfr g (by simp [hf, hg])⟩
  · intro w cs d f h g hg
    obtain ⟨vvars, vvals, fvars, fvals, hc, hf, hvars, hvals⟩ := h
    rw [hf, List.mem_append] at hg
    exact hg.elim (hvars.lt g) (hvals.lt g)
theorem goodW_bind : GoodW bindW := by
  refine ⟨fun {w w'} {cs} {d} h hb => ?_⟩
  obtain ⟨vvars, vvals, hc, hvars, hvals⟩ := h
  exact ⟨vvars, vvals, hc, hvars.below' hb, hvals.below' hb⟩

/-- A slice value that reads as a list of BindD. -/
def binds (w : World) (v : Value) (l : List BindD) (f : List Nat) : Prop := slR 32 2 bindR w v l f
def bindsR : Rd (List BindD) := fun w cs l f => ∃ v, cs = [v] ∧ binds w v l f
theorem good_binds : Good bindsR := good_el good_bind
def bindsV (w : World) (v : Value) (l : List BindD) : Prop := slW 2 bindW w v l
def bindsW : RdW (List BindD) := fun w cs l => ∃ v, cs = [v] ∧ bindsV w v l
theorem goodW_binds : GoodW bindsW := goodW_el goodW_bind
section
variable {w w' : World} {v : Value} {l : List BindD} {f : List Nat}
theorem binds.below' (h : binds w v l f) (hb : Below w.heap.size w w') : binds w' v l f := slR.below' good_bind h hb
theorem binds.below {B : Nat} (h : binds w v l f) (hb : Below B w w') (hf : ∀ g ∈ f, g < B) : binds w' v l f := slR.below good_bind h hb hf
theorem binds.frame (h : binds w v l f) (hf : ∀ g ∈ f, w'.heap[g]? = w.heap[g]?) : binds w' v l f := slR.frame good_bind h hf
theorem binds.far (h : binds w v l f) {p : Addr} (hp : p.block ∉ f) (u : Value) : binds (w.setCell p u) v l f := slR.far good_bind h hp u
theorem binds.lt (h : binds w v l f) : ∀ g ∈ f, g < w.heap.size := slR.lt good_bind h
theorem bindsV.below' (h : bindsV w v l) (hb : Below w.heap.size w w') : bindsV w' v l := slW.below goodW_bind h hb
end

end Go.Proofs.Ytapapnaljjnhnaa
