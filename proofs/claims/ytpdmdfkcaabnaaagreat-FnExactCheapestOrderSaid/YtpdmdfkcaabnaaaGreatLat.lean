/- Regions that draw their order, whose operations only read what lay there before and whose callees make memory but turn nothing of the old: ONE walk in the order of the text. Over any program; no condition. -/
import Derived.Test.YtpdmdfkcaabnaaaGreatFacts0
import Derived.Deep.QuietTactic
import Derived.BigQuiet
namespace Go.Proofs.YtpdmdfkcaabnaaaGreat
open Go.RowKit
set_option linter.unusedVariables false
set_option linter.unusedSimpArgs false
/-- A world in which all that lay in w lies as it did. -/
structure Lat (w : World) where
  wd : World
  ok : Below w.heap.size w wd
instance (w : World) : Nonempty (Lat w) := ⟨⟨w, Below.refl _ _⟩⟩
section
variable {P : Program}
theorem wp_region_lat {id : Nat} {Q : Exit → Act → World → Prop} {a : Act} (w : World) {l : List Oper} (hm : P.follows .mixedOrders = true) (hB : Region.lexB .any l.toArray = true)
    (h : wpQuiet P l.toArray (fun w' => ∃ x : Lat w, w' = x.wd) (fun a' => ∀ w', (∃ x : Lat w, w' = x.wd) → Q .normal a' w') l a) : (Code.region id l.toArray true).wp P Q a w :=
  wp_region_quiet (C := fun w' => ∃ x : Lat w, w' = x.wd) hm hB ⟨⟨w.drew, (Below.refl _ _).drew⟩, rfl⟩ (by simpa using h)
theorem Lat.of {w : World} {x : Lat w} {f : FuncId} {args : Array Value} {v : Value} (h : Calls P f args x.wd fun e w' => e = .returned v ∧ Below x.wd.heap.size x.wd w') :
    Calls P f args x.wd fun e w'' => e = .returned v ∧ ∃ y : Lat w, w'' = y.wd := h.mono fun _ w' ⟨he, hw⟩ => ⟨he, ⟨w', bt x.ok hw⟩, rfl⟩
theorem Lat.eq {w : World} {x : Lat w} {f : FuncId} {args : Array Value} {v : Value} (h : Calls P f args x.wd fun e w' => e = .returned v ∧ x.wd = w') :
    Calls P f args x.wd fun e w'' => e = .returned v ∧ ∃ y : Lat w, w'' = y.wd := h.mono fun _ w' ⟨he, hw⟩ => ⟨he, x, hw.symm⟩
theorem Lat.qt {w : World} {x : Lat w} {f : FuncId} {args : Array Value} {v : Value} (h : Calls P f args x.wd fun e w' => e = .returned v ∧ Qt x.wd w') :
    Calls P f args x.wd fun e w'' => e = .returned v ∧ ∃ y : Lat w, w'' = y.wd := h.mono fun _ w' ⟨he, hw⟩ => ⟨he, ⟨w', bqt x.ok hw⟩, rfl⟩
theorem Lat.cell {w : World} (x : Lat w) {a : Addr} {u : Value} (h : w.cell? a = some u) : x.wd.cell? a = some u := cell_below h x.ok
theorem retBB {f : FuncId} {args : Array Value} {w : World} {b c : Bool} {N : Nat} (h : Calls P f args w fun e w' => e = .returned (.bool b) ∧ Below N w w') (hb : b = c) : Calls P f args w fun e w' => e = .returned (.bool c) ∧ Below N w w' := hb ▸ h
end
end Go.Proofs.YtpdmdfkcaabnaaaGreat
