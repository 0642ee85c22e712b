/- The texts of terms, separated by commas, of the program and of the reference. Conditions: not more than 2^20 terms; what the library's table reads as. -/
import Derived.Test.YtojjojcmemifhaaDoorFmtStr
namespace Go.Proofs.YtojjojcmemifhaaDoor
open Go.RowKit
set_option linter.unusedVariables false
set_option linter.unusedSimpArgs false
/-- A term's text. -/
def termS (t : Int) : List UInt8 := if isVarB t then 120 :: Lib.itoa (t - 10) else Lib.itoa t
theorem termS_var {t : Int} (h : isVarB t = true) : termS t = 120 :: Lib.itoa (t - 10) := by unfold termS; rw [if_pos h]
theorem termS_val {t : Int} (h : isVarB t = false) : termS t = Lib.itoa t := by unfold termS; rw [if_neg (by rw [h]; simp)]
theorem var_bd {t : Int} (h : isVarB t = true) : 10 ≤ t ∧ t ≤ 17 := by unfold isVarB at h; exact inR_true h
theorem termS_le {t : Int} (h : I64 t) : (termS t).length ≤ 22 := by
  cases hv : isVarB t with
  | true =>
    have hb := var_bd hv
    have := itoa_le (n := t - 10) ⟨by omega, by omega⟩
    rw [termS_var hv, List.length_cons]; omega
  | false => rw [termS_val hv]; have := itoa_le h; omega
def termsS (l : List Int) (by_ : List UInt8) : List UInt8 := Lib.join (l.map termS) by_
theorem termsS_len {l : List Int} (by_ : List UInt8) (hI : ∀ x ∈ l, I64 x) : (termsS l by_).length ≤ l.length * (22 + by_.length) := by
  have := join_length_le by_ 22 (l.map termS) (by intro x hx; obtain ⟨n, hn, rfl⟩ := List.mem_map.1 hx; exact termS_le (hI n hn))
  simpa [termsS] using this
theorem termsS_take {l : List Int} (by_ : List UInt8) {k : Nat} (hk : k < l.length) : termsS (l.take (k + 1)) by_ = if k = 0 then termS l[k] else termsS (l.take k) by_ ++ by_ ++ termS l[k] := join_take _ _ hk
theorem retB' {P : Program} {f : FuncId} {args : Array Value} {w : World} {b c : Bool} (h : Calls P f args w fun e w' => e = .returned (.bool b) ∧ w = w') (hb : b = c) : Calls P f args w fun e w' => e = .returned (.bool c) ∧ w = w' := hb ▸ h
end Go.Proofs.YtojjojcmemifhaaDoor
