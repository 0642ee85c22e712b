/- DecodeVarint of the program and of the reference: both return what 'DecIs' says. Condition: the text is no longer than 2^20. -/
import Derived.Test.YtkjlfhccjpimcaaDoorVarP
import Derived.Test.YtkjlfhccjpimcaaDoorFixed
import Derived.Deep.QuietTactic
import Derived.BigQuiet
import Derived.Laws.Strings
namespace Go.Proofs.YtkjlfhccjpimcaaDoor
open Go.RowKit
set_option linter.unusedVariables false
set_option linter.unusedSimpArgs false
/-- A world in which all that lay in w lies as it did. -/
structure Lat (w : World) where
  wd : World
  ok : Below w.heap.size w wd
instance (w : World) : Nonempty (Lat w) := ⟨⟨w, Below.refl _ _⟩⟩
theorem wp_region_lat {P : Program} {id : Nat} {Q : Exit → Act → World → Prop} {a : Act} (w : World) {l : List Oper} (hm : P.follows .mixedOrders = true) (hB : Region.lexB .any l.toArray = true)
    (h : wpQuiet P l.toArray (fun w' => ∃ x : Lat w, w' = x.wd) (fun a' => ∀ w', (∃ x : Lat w, w' = x.wd) → Q .normal a' w') l a) : (Code.region id l.toArray true).wp P Q a w :=
  wp_region_quiet (C := fun w' => ∃ x : Lat w, w' = x.wd) hm hB ⟨⟨w.drew, (Below.refl _ _).drew⟩, rfl⟩ (by simpa using h)
theorem Lat.of {P : Program} {w : World} {x : Lat w} {f : FuncId} {args : Array Value} {v : Value} (h : Calls P f args x.wd fun e w' => e = .returned v ∧ Below x.wd.heap.size x.wd w') :
    Calls P f args x.wd fun e w'' => e = .returned v ∧ ∃ y : Lat w, w'' = y.wd := h.mono fun _ w' ⟨he, hw⟩ => ⟨he, ⟨w', x.ok.trans (hw.mono x.ok.size)⟩, rfl⟩
theorem retStrB {P : Program} {f : FuncId} {args : Array Value} {w : World} {a b : ByteArray} {N : Nat} (h : Calls P f args w fun e w' => e = .returned (.string a) ∧ Below N w w') (hb : a = b) : Calls P f args w fun e w' => e = .returned (.string b) ∧ Below N w w' := hb ▸ h
theorem encVar_at (v : Nat) (h : v < 562949953421312) : encVar (v : Int) = ⟨(varBytes 8 v).toArray⟩ := by
  have h1 : inR (v : Int) 0 562949953421311 = true := by simp [inR]; omega
  simp [encVar, h1, encVarN]
theorem pow7 (l : List UInt8) (h : l.length ≤ 7) : leV l < 562949953421312 := by
  have h1 := leV_lt l
  have h2 : 128 ^ l.length ≤ 128 ^ 7 := Nat.pow_le_pow_right (by omega) h
  have h3 : (128 : Nat) ^ 7 = 562949953421312 := by decide
  omega
theorem pow6 (l : List UInt8) (h : l.length ≤ 6) : leV l < 4398046511104 := by
  have h1 := leV_lt l
  have h2 : 128 ^ l.length ≤ 128 ^ 6 := Nat.pow_le_pow_right (by omega) h
  have h3 : (128 : Nat) ^ 6 = 4398046511104 := by decide
  omega
theorem leV_drop {t : List UInt8} {n q : Nat} (h : q < n) (hn : n ≤ t.length) : leV ((t.take n).drop q) = (t[q]'(by omega)).toNat % 128 + 128 * leV ((t.take n).drop (q + 1)) := by
  rw [List.drop_eq_getElem_cons (by rw [List.length_take]; omega)]
  simp only [leV, List.getElem_take]
theorem take_extract (s : ByteArray) (n : Nat) : (⟨(s.data.toList.take n).toArray⟩ : ByteArray) = s.extract 0 n := by
  apply ByteArray.ext
  apply Array.toList_inj.1
  simp [ByteArray.data_extract, List.extract]
theorem extract_toList (s : ByteArray) (n : Nat) : (s.extract 0 n).toList = s.data.toList.take n := by
  rw [ByteArray.toList_eq, ← take_extract]
end Go.Proofs.YtkjlfhccjpimcaaDoor
