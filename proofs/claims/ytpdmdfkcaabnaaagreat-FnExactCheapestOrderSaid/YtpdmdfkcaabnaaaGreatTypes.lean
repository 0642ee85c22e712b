/- The data of the program in plain terms, and how each reads off memory: '..R', '..s': what the program's own functions make, with the blocks in which it lies; '..W': as it came in. No condition. -/
import Derived.Test.YtpdmdfkcaabnaaaGreatOwn
namespace Go.Proofs.YtpdmdfkcaabnaaaGreat
open Go.RowKit
set_option linter.unusedVariables false
set_option linter.unusedSimpArgs false

/-! ### As it came in: a slice at any place of its block -/
abbrev RdW (α : Type) := World → List Value → α → Prop
structure GoodW {α : Type} (R : RdW α) : Prop where
  keep : ∀ {w w' : World} {cs : List Value} {d : α}, R w cs d → Below w.heap.size w w' → R w' cs d
def slW {α : Type} (sz : Nat) (R : RdW α) (w : World) (v : Value) (l : List α) : Prop :=
  ∃ a cap, v = .slice a l.length cap ∧ l.length ≤ maxLen ∧ ∀ i (hi : i < l.length), ∃ b off c, a = some ⟨b, off, none⟩ ∧ c.length = sz ∧ (∀ j u, c[j]? = some u → w.cell? ⟨b, off + i * sz + j, none⟩ = some u) ∧ R w c l[i]
theorem cell_below {w w' : World} {a : Addr} {u : Value} (h : w.cell? a = some u) (hb : Below w.heap.size w w') : w'.cell? a = some u :=
  (World.cell?_of_block (hb.block a.block (World.block_lt_of_cell? w a h))).trans h
theorem slW.below {α : Type} {sz : Nat} {R : RdW α} (hR : GoodW R) {w w' : World} {v : Value} {l : List α} (h : slW sz R w v l) (hb : Below w.heap.size w w') : slW sz R w' v l := by
  obtain ⟨a, cap, hv, hm, h⟩ := h
  refine ⟨a, cap, hv, hm, fun i hi => ?_⟩
  obtain ⟨b, off, c, ha, hl, hc, hr⟩ := h i hi
  exact ⟨b, off, c, ha, hl, fun j u hj => cell_below (hc j u hj) hb, hR.keep hr hb⟩
theorem slW.form {α : Type} {sz : Nat} {R : RdW α} {w : World} {v : Value} {l : List α} (h : slW sz R w v l) : ∃ a cap, v = .slice a l.length cap := by
  obtain ⟨a, cap, hv, _⟩ := h; exact ⟨a, cap, hv⟩
theorem slW.le_max {α : Type} {sz : Nat} {R : RdW α} {w : World} {v : Value} {l : List α} (h : slW sz R w v l) : l.length ≤ 9223372036854775807 := by
  obtain ⟨a, cap, hv, hm, _⟩ := h; exact hm
theorem slW.at {α : Type} {sz : Nat} {R : RdW α} {w : World} {a : Option Addr} {n cap : Nat} {l : List α} (h : slW sz R w (.slice a n cap) l) (i : Nat) (hi : i < l.length) :
    ∃ b off c, a = some ⟨b, off, none⟩ ∧ c.length = sz ∧ (∀ j u, c[j]? = some u → w.cell? ⟨b, off + i * sz + j, none⟩ = some u) ∧ R w c l[i] := by
  obtain ⟨a', cap', hv, hm, h⟩ := h
  cases hv
  exact h i hi
def intW : RdW Int := fun _ cs d => cs = [.int .i64 d] ∧ I64 d
theorem goodW_int : GoodW intW := ⟨fun h _ => h⟩
def elW {α : Type} (sz : Nat) (R : RdW α) : RdW (List α) := fun w cs l => ∃ v, cs = [v] ∧ slW sz R w v l
theorem goodW_el {α : Type} {sz : Nat} {R : RdW α} (hR : GoodW R) : GoodW (elW sz R) := ⟨fun ⟨v, hv, h⟩ hb => ⟨v, hv, h.below hR hb⟩⟩

/-- A slice value that reads as a list of Int. -/
def ints (w : World) (v : Value) (l : List Int) (f : List Nat) : Prop := slR 3 1 intR w v l f
def intsR : Rd (List Int) := fun w cs l f => ∃ v, cs = [v] ∧ ints w v l f
theorem good_ints : Good intsR := good_el good_int
def intsV (w : World) (v : Value) (l : List Int) : Prop := slW 1 intW w v l
def intsW : RdW (List Int) := fun w cs l => ∃ v, cs = [v] ∧ intsV w v l
theorem goodW_ints : GoodW intsW := goodW_el goodW_int
section
variable {w w' : World} {v : Value} {l : List Int} {f : List Nat}
theorem ints.below' (h : ints w v l f) (hb : Below w.heap.size w w') : ints w' v l f := slR.below' good_int h hb
theorem ints.below {B : Nat} (h : ints w v l f) (hb : Below B w w') (hf : ∀ g ∈ f, g < B) : ints w' v l f := slR.below good_int h hb hf
theorem ints.frame (h : ints w v l f) (hf : ∀ g ∈ f, w'.heap[g]? = w.heap[g]?) : ints w' v l f := slR.frame good_int h hf
theorem ints.far (h : ints w v l f) {p : Addr} (hp : p.block ∉ f) (u : Value) : ints (w.setCell p u) v l f := slR.far good_int h hp u
theorem ints.lt (h : ints w v l f) : ∀ g ∈ f, g < w.heap.size := slR.lt good_int h
theorem intsV.below' (h : intsV w v l) (hb : Below w.heap.size w w') : intsV w' v l := slW.below goodW_int h hb
end

/-- A slice value that reads as a list of (List Int). -/
def intss (w : World) (v : Value) (l : List (List Int)) (f : List Nat) : Prop := slR 22 1 intsR w v l f
def intssR : Rd (List (List Int)) := fun w cs l f => ∃ v, cs = [v] ∧ intss w v l f
theorem good_intss : Good intssR := good_el good_ints
def intssV (w : World) (v : Value) (l : List (List Int)) : Prop := slW 1 intsW w v l
def intssW : RdW (List (List Int)) := fun w cs l => ∃ v, cs = [v] ∧ intssV w v l
theorem goodW_intss : GoodW intssW := goodW_el goodW_ints
section
variable {w w' : World} {v : Value} {l : List (List Int)} {f : List Nat}
theorem intss.below' (h : intss w v l f) (hb : Below w.heap.size w w') : intss w' v l f := slR.below' good_ints h hb
theorem intss.below {B : Nat} (h : intss w v l f) (hb : Below B w w') (hf : ∀ g ∈ f, g < B) : intss w' v l f := slR.below good_ints h hb hf
theorem intss.frame (h : intss w v l f) (hf : ∀ g ∈ f, w'.heap[g]? = w.heap[g]?) : intss w' v l f := slR.frame good_ints h hf
theorem intss.far (h : intss w v l f) {p : Addr} (hp : p.block ∉ f) (u : Value) : intss (w.setCell p u) v l f := slR.far good_ints h hp u
theorem intss.lt (h : intss w v l f) : ∀ g ∈ f, g < w.heap.size := slR.lt good_ints h
theorem intssV.below' (h : intssV w v l) (hb : Below w.heap.size w w') : intssV w' v l := slW.below goodW_ints h hb
end

structure FactD where
  rel : Int
  vals : List Int
structure AtomD where
  rel : Int
  terms : List Int
structure BindD where
  vars : List Int
  vals : List Int
structure AccD where
  meth : Int
  vals : List Int
structure StepD where
  atom : Int
  meth : Int
structure MethD where
  rel : Int
  inputs : List Int
  limit : Int
  cost : Int
  quota : Int
structure QueryD where
  head : List Int
  atoms : List AtomD
def atomR : Rd AtomD := fun w cs d f => ∃ vterms, cs = [.int .i64 d.rel, vterms] ∧ I64 d.rel ∧ ints w vterms d.terms f
def atomW : RdW AtomD := fun w cs d => ∃ vterms, cs = [.int .i64 d.rel, vterms] ∧ I64 d.rel ∧ intsV w vterms d.terms
theorem good_atom : Good atomR := by
  constructor
  · intro w w' cs d f h hfr
    obtain ⟨vterms, hc, irel, hterms⟩ := h
    exact ⟨vterms, hc, irel, hterms.frame fun g hg => hfr g (by simp [hg])⟩
  · intro w cs d f h g hg
    obtain ⟨vterms, hc, irel, hterms⟩ := h
    exact hterms.lt g hg
theorem goodW_atom : GoodW atomW := by
  refine ⟨fun {w w'} {cs} {d} h hb => ?_⟩
  obtain ⟨vterms, hc, irel, hterms⟩ := h
  exact ⟨vterms, hc, irel, hterms.below' hb⟩

/-- A slice value that reads as a list of AtomD. -/
def atoms (w : World) (v : Value) (l : List AtomD) (f : List Nat) : Prop := slR 75 2 atomR w v l f
def atomsR : Rd (List AtomD) := fun w cs l f => ∃ v, cs = [v] ∧ atoms w v l f
theorem good_atoms : Good atomsR := good_el good_atom
def atomsV (w : World) (v : Value) (l : List AtomD) : Prop := slW 2 atomW w v l
def atomsW : RdW (List AtomD) := fun w cs l => ∃ v, cs = [v] ∧ atomsV w v l
theorem goodW_atoms : GoodW atomsW := goodW_el goodW_atom
section
variable {w w' : World} {v : Value} {l : List AtomD} {f : List Nat}
theorem atoms.below' (h : atoms w v l f) (hb : Below w.heap.size w w') : atoms w' v l f := slR.below' good_atom h hb
theorem atoms.below {B : Nat} (h : atoms w v l f) (hb : Below B w w') (hf : ∀ g ∈ f, g < B) : atoms w' v l f := slR.below good_atom h hb hf
theorem atoms.frame (h : atoms w v l f) (hf : ∀ g ∈ f, w'.heap[g]? = w.heap[g]?) : atoms w' v l f := slR.frame good_atom h hf
theorem atoms.far (h : atoms w v l f) {p : Addr} (hp : p.block ∉ f) (u : Value) : atoms (w.setCell p u) v l f := slR.far good_atom h hp u
theorem atoms.lt (h : atoms w v l f) : ∀ g ∈ f, g < w.heap.size := slR.lt good_atom h
theorem atomsV.below' (h : atomsV w v l) (hb : Below w.heap.size w w') : atomsV w' v l := slW.below goodW_atom h hb
end

def stepR : Rd StepD := fun w cs d f => cs = [.int .i64 d.atom, .int .i64 d.meth] ∧ f = [] ∧ I64 d.atom ∧ I64 d.meth
def stepW : RdW StepD := fun w cs d => cs = [.int .i64 d.atom, .int .i64 d.meth] ∧ I64 d.atom ∧ I64 d.meth
theorem good_step : Good stepR := by
  constructor
  · intro w w' cs d f h hfr
    obtain ⟨hc, hf, iatom, imeth⟩ := h
    exact ⟨hc, hf, iatom, imeth⟩
  · intro w cs d f h g hg
    obtain ⟨hc, hf, iatom, imeth⟩ := h
    rw [hf] at hg; simp at hg
theorem goodW_step : GoodW stepW := by
  refine ⟨fun {w w'} {cs} {d} h hb => ?_⟩
  obtain ⟨hc, iatom, imeth⟩ := h
  exact ⟨hc, iatom, imeth⟩

/-- A slice value that reads as a list of StepD. -/
def steps (w : World) (v : Value) (l : List StepD) (f : List Nat) : Prop := slR 65 2 stepR w v l f
def stepsR : Rd (List StepD) := fun w cs l f => ∃ v, cs = [v] ∧ steps w v l f
theorem good_steps : Good stepsR := good_el good_step
def stepsV (w : World) (v : Value) (l : List StepD) : Prop := slW 2 stepW w v l
def stepsW : RdW (List StepD) := fun w cs l => ∃ v, cs = [v] ∧ stepsV w v l
theorem goodW_steps : GoodW stepsW := goodW_el goodW_step
section
variable {w w' : World} {v : Value} {l : List StepD} {f : List Nat}
theorem steps.below' (h : steps w v l f) (hb : Below w.heap.size w w') : steps w' v l f := slR.below' good_step h hb
theorem steps.below {B : Nat} (h : steps w v l f) (hb : Below B w w') (hf : ∀ g ∈ f, g < B) : steps w' v l f := slR.below good_step h hb hf
theorem steps.frame (h : steps w v l f) (hf : ∀ g ∈ f, w'.heap[g]? = w.heap[g]?) : steps w' v l f := slR.frame good_step h hf
theorem steps.far (h : steps w v l f) {p : Addr} (hp : p.block ∉ f) (u : Value) : steps (w.setCell p u) v l f := slR.far good_step h hp u
theorem steps.lt (h : steps w v l f) : ∀ g ∈ f, g < w.heap.size := slR.lt good_step h
theorem stepsV.below' (h : stepsV w v l) (hb : Below w.heap.size w w') : stepsV w' v l := slW.below goodW_step h hb
end

def methR : Rd MethD := fun w cs d f => ∃ vinputs, cs = [.int .i64 d.rel, vinputs, .int .i64 d.limit, .int .i64 d.cost, .int .i64 d.quota] ∧ I64 d.rel ∧ I64 d.limit ∧ I64 d.cost ∧ I64 d.quota ∧ ints w vinputs d.inputs f
def methW : RdW MethD := fun w cs d => ∃ vinputs, cs = [.int .i64 d.rel, vinputs, .int .i64 d.limit, .int .i64 d.cost, .int .i64 d.quota] ∧ I64 d.rel ∧ I64 d.limit ∧ I64 d.cost ∧ I64 d.quota ∧ intsV w vinputs d.inputs
theorem good_meth : Good methR := by
  constructor
  · intro w w' cs d f h hfr
    obtain ⟨vinputs, hc, irel, ilimit, icost, iquota, hinputs⟩ := h
    exact ⟨vinputs, hc, irel, ilimit, icost, iquota, hinputs.frame fun g hg => hfr g (by simp [hg])⟩
  · intro w cs d f h g hg
    obtain ⟨vinputs, hc, irel, ilimit, icost, iquota, hinputs⟩ := h
    exact hinputs.lt g hg
theorem goodW_meth : GoodW methW := by
  refine ⟨fun {w w'} {cs} {d} h hb => ?_⟩
  obtain ⟨vinputs, hc, irel, ilimit, icost, iquota, hinputs⟩ := h
  exact ⟨vinputs, hc, irel, ilimit, icost, iquota, hinputs.below' hb⟩

/-- A slice value that reads as a list of MethD. -/
def meths (w : World) (v : Value) (l : List MethD) (f : List Nat) : Prop := slR 55 5 methR w v l f
def methsR : Rd (List MethD) := fun w cs l f => ∃ v, cs = [v] ∧ meths w v l f
theorem good_meths : Good methsR := good_el good_meth
def methsV (w : World) (v : Value) (l : List MethD) : Prop := slW 5 methW w v l
def methsW : RdW (List MethD) := fun w cs l => ∃ v, cs = [v] ∧ methsV w v l
theorem goodW_meths : GoodW methsW := goodW_el goodW_meth
section
variable {w w' : World} {v : Value} {l : List MethD} {f : List Nat}
theorem meths.below' (h : meths w v l f) (hb : Below w.heap.size w w') : meths w' v l f := slR.below' good_meth h hb
theorem meths.below {B : Nat} (h : meths w v l f) (hb : Below B w w') (hf : ∀ g ∈ f, g < B) : meths w' v l f := slR.below good_meth h hb hf
theorem meths.frame (h : meths w v l f) (hf : ∀ g ∈ f, w'.heap[g]? = w.heap[g]?) : meths w' v l f := slR.frame good_meth h hf
theorem meths.far (h : meths w v l f) {p : Addr} (hp : p.block ∉ f) (u : Value) : meths (w.setCell p u) v l f := slR.far good_meth h hp u
theorem meths.lt (h : meths w v l f) : ∀ g ∈ f, g < w.heap.size := slR.lt good_meth h
theorem methsV.below' (h : methsV w v l) (hb : Below w.heap.size w w') : methsV w' v l := slW.below goodW_meth h hb
end

def queryR : Rd QueryD := fun w cs d f => ∃ vhead vatoms fhead fatoms, cs = [vhead, vatoms] ∧ f = fhead ++ fatoms ∧ ints w vhead d.head fhead ∧ atoms w vatoms d.atoms fatoms
def queryW : RdW QueryD := fun w cs d => ∃ vhead vatoms, cs = [vhead, vatoms] ∧ intsV w vhead d.head ∧ atomsV w vatoms d.atoms
theorem good_query : Good queryR := by
  constructor
  · intro w w' cs d f h hfr
    obtain ⟨vhead, vatoms, fhead, fatoms, hc, hf, hhead, hatoms⟩ := h
    exact ⟨vhead, vatoms, fhead, fatoms, hc, hf, hhead.frame fun g hg => hfr g (by simp [hf, hg]), hatoms.frame fun g hg => hfr g (by simp [hf, hg])⟩
  · intro w cs d f h g hg
    obtain ⟨vhead, vatoms, fhead, fatoms, hc, hf, hhead, hatoms⟩ := h
    rw [hf, List.mem_append] at hg
    exact hg.elim (hhead.lt g) (hatoms.lt g)
theorem goodW_query : GoodW queryW := by
  refine ⟨fun {w w'} {cs} {d} h hb => ?_⟩
  obtain ⟨vhead, vatoms, hc, hhead, hatoms⟩ := h
  exact ⟨vhead, vatoms, hc, hhead.below' hb, hatoms.below' hb⟩

end Go.Proofs.YtpdmdfkcaabnaaaGreat
