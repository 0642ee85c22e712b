/- FormatFact, FormatAccess and FormatAtom, of the program and of the reference. Condition: what the library's table reads as. -/
import Derived.Test.YtojjojcmemifhaaDoorFmtTerms
import Derived.Test.YtojjojcmemifhaaDoorIsFact
import Derived.Test.YtojjojcmemifhaaDoorLat
namespace Go.Proofs.YtojjojcmemifhaaDoor
open Go.RowKit
set_option linter.unusedVariables false
set_option linter.unusedSimpArgs false
theorem retStr {P : Program} {f : FuncId} {args : Array Value} {w : World} {a b : ByteArray} {Q : World → Prop} (h : Calls P f args w fun e w' => e = .returned (.string a) ∧ Q w') (hb : a = b) : Calls P f args w fun e w' => e = .returned (.string b) ∧ Q w' := hb ▸ h
theorem inR_i64 {n lo hi : Int} (h : inR n lo hi = true) (h1 : -9223372036854775808 ≤ lo) (h2 : hi ≤ 9223372036854775807) : I64 n := by have := inR_true h; exact ⟨by omega, by omega⟩
theorem isRel_any (r : Int) (w : World) : Calls Tryd.prog 36 #[.int .i64 r] w fun e w' => e = .returned (.bool (inR r 0 2)) ∧ w = w' := by
  go_enter Tryd.func36, Tryd.ntmps36
  go_wp2_with (go_at_call 31; refine (f31_any _ _ _ _).mono ?_; rintro e w' ⟨rfl, rfl⟩)
  go_ret
  exact ⟨rfl, rfl⟩
def factFB (x : FactD) : Bool := inR x.rel 0 2 && inR (x.vals.length : Int) 1 3 && !(x.vals.any fun n => !isVal n)
def factFS (x : FactD) : List UInt8 := if factFB x then 114 :: (Lib.itoa x.rel ++ (40 :: (listS x.vals [44] ++ [41]))) else []
theorem factFS_no {x : FactD} (h : factFB x = false) : factFS x = [] := by unfold factFS; rw [h]; rfl
theorem factFS_yes {x : FactD} (h : factFB x = true) : factFS x = 114 :: (Lib.itoa x.rel ++ (40 :: (listS x.vals [44] ++ [41]))) := by unfold factFS; rw [h]; rfl
def accessFB (x : AccD) : Bool := inR x.meth 0 4 && decide ((x.vals.length : Int) ≤ 3) && !(x.vals.any fun n => !isVal n)
def accessFS (x : AccD) : List UInt8 := if accessFB x then 109 :: (Lib.itoa x.meth ++ (40 :: (listS x.vals [44] ++ [41]))) else []
theorem accessFS_no {x : AccD} (h : accessFB x = false) : accessFS x = [] := by unfold accessFS; rw [h]; rfl
theorem accessFS_yes {x : AccD} (h : accessFB x = true) : accessFS x = 109 :: (Lib.itoa x.meth ++ (40 :: (listS x.vals [44] ++ [41]))) := by unfold accessFS; rw [h]; rfl
def atomFB (x : AtomD) : Bool := inR x.rel 0 2 && inR (x.terms.length : Int) 1 3 && !(x.terms.any fun n => !isTermB n)
def atomFS (x : AtomD) : List UInt8 := if atomFB x then 114 :: (Lib.itoa x.rel ++ (40 :: (termsS x.terms [44] ++ [41]))) else []
theorem atomFS_no {x : AtomD} (h : atomFB x = false) : atomFS x = [] := by unfold atomFS; rw [h]; rfl
theorem atomFS_yes {x : AtomD} (h : atomFB x = true) : atomFS x = 114 :: (Lib.itoa x.rel ++ (40 :: (termsS x.terms [44] ++ [41]))) := by unfold atomFS; rw [h]; rfl
end Go.Proofs.YtojjojcmemifhaaDoor
