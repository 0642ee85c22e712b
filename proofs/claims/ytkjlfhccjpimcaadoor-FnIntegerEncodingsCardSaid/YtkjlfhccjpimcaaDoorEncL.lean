/- Plain laws: what is encoded is decoded again. No condition, no program in sight. -/
import Derived.Test.YtkjlfhccjpimcaaDoorVarD
import Derived.Test.YtkjlfhccjpimcaaDoorEncFixed
import Derived.Test.YtkjlfhccjpimcaaDoorFixed
import Derived.Test.YtkjlfhccjpimcaaDoorDecHex
import Derived.Test.YtkjlfhccjpimcaaDoorIntP
namespace Go.Proofs.YtkjlfhccjpimcaaDoor
open Go.RowKit
set_option linter.unusedVariables false
set_option linter.unusedSimpArgs false
theorem leV_var : ∀ (f v : Nat), v < 128 ^ (f + 1) → leV (varBytes f v) = v
  | f, v, hv => by
    by_cases hs : v < 128
    · rw [varBytes_last f v hs]
      simp only [leV]
      rw [toNat_ofNat_lt _ (by omega)]
      omega
    · cases f with
      | zero => simp at hv; omega
      | succ f =>
        rw [varBytes_more f v (by omega)]
        simp only [leV]
        rw [leV_var f (v / 128) (pow128_step v f hv), toNat_ofNat_lt _ (by omega)]
        omega
theorem varBytes_len : ∀ (k f v : Nat), k ≤ f → v < 128 ^ (k + 1) → (varBytes f v).length ≤ k + 1
  | 0, f, v, _, hv => by rw [varBytes_last f v (by simpa using hv)]; simp
  | k + 1, f, v, hf, hv => by
    by_cases hs : v < 128
    · rw [varBytes_last f v hs]; simp
    · cases f with
      | zero => omega
      | succ f =>
        rw [varBytes_more f v (by omega)]
        have := varBytes_len k f (v / 128) (by omega) (pow128_step v k hv)
        simp; omega
theorem varBytes_pos (f v : Nat) : 0 < (varBytes f v).length := by
  cases f with
  | zero => simp [varBytes]
  | succ f =>
    unfold varBytes
    split <;> simp
/-- A varint, with whatever behind it, is read as the number and its length. -/
theorem dec_var {v : Nat} (hv : v < 562949953421312) (l : List UInt8) {x n : Int} (h : DecIs (varBytes 8 v ++ l) x n) : x = v ∧ n = (varBytes 8 v).length := by
  have hl := varBytes_len 6 8 v (by omega) (Nat.lt_of_lt_of_le hv (by decide))
  have hp := varBytes_pos 8 v
  have hb : v < 128 ^ (8 + 1) := Nat.lt_of_lt_of_le hv (by decide)
  have ht : (varBytes 8 v ++ l).take ((varBytes 8 v).length - 1 + 1) = varBytes 8 v := by
    rw [show (varBytes 8 v).length - 1 + 1 = (varBytes 8 v).length by omega]; simp
  have hc : canonAt (varBytes 8 v ++ l) ((varBytes 8 v).length - 1) := canon_of_var (f := 8) (v := v) (by simp; omega) hb ht.symm
  refine h.one (.inl ⟨_, by omega, hc, ?_, by omega⟩)
  rw [ht, leV_var 8 v hb]
theorem encVar_yes {n : Int} (h : inR n 0 562949953421311 = true) : ∃ v : Nat, n = v ∧ v < 562949953421312 ∧ encVar n = ⟨(varBytes 8 v).toArray⟩ := by
  obtain ⟨h0, h1⟩ := inR_true h
  obtain ⟨v, rfl⟩ := Int.eq_ofNat_of_zero_le h0
  refine ⟨v, rfl, by omega, ?_⟩
  unfold encVar encVarN
  rw [if_pos h]; rfl
theorem encVar_no {n : Int} (h : inR n 0 562949953421311 = false) : encVar n = ⟨#[]⟩ := by unfold encVar; rw [h]; rfl
theorem beN_low : ∀ (k m : Nat) (a : Nat), (lowB k m).foldl (fun a b => a * 256 + b.toNat) a = a * 256 ^ k + m % 256 ^ k
  | 0, m, a => by simp [lowB, Nat.mod_one]
  | k + 1, m, a => by
    simp only [lowB, List.foldl_cons]
    rw [beN_low k m, toNat_ofNat_lt _ (Nat.mod_lt _ (by omega)), Nat.pow_succ, Nat.add_mul, Nat.mul_assoc, Nat.mul_comm 256 (256 ^ k), Nat.add_assoc]
    congr 1
    have := Nat.mod_mul (a := 256 ^ k) (b := 256) (x := m)
    rw [this]
    rw [Nat.mul_comm (m / 256 ^ k % 256), Nat.add_comm]
theorem fix_len {n width : Int} (h : fixFits n width = true) : ((lowB width.toNat n.toNat).length : Int) = width := by
  unfold fixFits at h
  simp only [Bool.and_eq_true] at h
  have := inR_true h.1
  rw [lowB_length]; omega
/-- What is laid at a width is read at that width. -/
theorem dec_fix {n width : Int} (h : fixFits n width = true) (l : List UInt8) : fixOk ⟨(lowB width.toNat n.toNat ++ l).toArray⟩ width = true ∧ decFixed ⟨(lowB width.toNat n.toNat ++ l).toArray⟩ width = n := by
  have hl := fix_len h
  have hk : fixOk ⟨(lowB width.toNat n.toNat ++ l).toArray⟩ width = true := by
    unfold fixOk
    have h2 := h
    unfold fixFits at h2
    simp only [Bool.and_eq_true] at h2
    rw [h2.1]
    simp [ByteArray.size]
    omega
  refine ⟨hk, ?_⟩
  rw [decodeFixed_yes _ _ hk]
  unfold fixFits at h
  simp only [Bool.and_eq_true, decide_eq_true_eq] at h
  obtain ⟨h1, h2, h3⟩ := h
  have ht : (lowB width.toNat n.toNat ++ l).take width.toNat = lowB width.toNat n.toNat := by
    rw [List.take_append_of_le_length (by rw [lowB_length]; exact Nat.le_refl _), List.take_of_length_le (by rw [lowB_length]; exact Nat.le_refl _)]
  show ((beN ((lowB width.toNat n.toNat ++ l).toArray.toList.take width.toNat) : Nat) : Int) = n
  have e := beN_low width.toNat n.toNat 0
  have hm : n.toNat % 256 ^ width.toNat = n.toNat := by
    rw [Nat.mod_eq_of_lt]
    have hp : 0 < 256 ^ width.toNat := Nat.pow_pos (by omega)
    exact (Nat.div_eq_zero_iff_lt hp).1 h3
  rw [List.toList_toArray, ht]
  unfold beN
  rw [e, hm]
  omega
theorem dec_hex (s : ByteArray) : hexL (encHex s).data.toList = s.data.toList ∧ hexOk (encHex s).data.toList = true ∧ (encHex s).size = 2 * s.size := by
  obtain ⟨h1, h2, _, _⟩ := hexOk_of (t := (encHex s).data.toList) (l := s.data.toList) (by unfold encHex; simp)
  refine ⟨h2, h1, ?_⟩
  have := Lib.Hx.encode_length s.data.toList
  unfold encHex
  show (Lib.Hx.encode s.data.toList).toArray.size = _
  simp only [List.size_toArray]
  rw [this]; simp
/-- A number's own text is read as the number where it is small, and not else. -/
theorem dec_int {n z : Int} {k : Bool} (h : IntIs (Lib.itoa n) z k) : k = (decide ((-1000000000 : Int) < n) && decide (n < 1000000000)) ∧ (k = true → z = n) := by
  rcases h with ⟨m, a, b, c, rfl, rfl⟩ | ⟨hn, rfl, rfl⟩
  · have e := atoi_itoa z
    rw [c, atoi_itoa n] at e
    have e' := Option.some.inj e
    subst e'
    refine ⟨?_, fun _ => rfl⟩
    simp; omega
  · refine ⟨?_, fun h => by cases h⟩
    rcases Int.lt_or_le (-1000000000) n with h1 | h1
    · rcases Int.lt_or_le n 1000000000 with h2 | h2
      · exact absurd rfl (hn n (by omega) (by omega))
      · simp; omega
    · simp; omega
end Go.Proofs.YtkjlfhccjpimcaaDoor
