/- DecodeFixed, of the program and of the reference: both return the big-endian number of the first bytes; what they compute is 'decFixed'. No condition but that a string is no longer than a string can be. -/
import Derived.Test.YtpdmdfkcaabnaaaGreatDoorMA
import Derived.Laws.BitsAllLaws
import Derived.Laws.BitsLemmas
namespace Go.Proofs.YtpdmdfkcaabnaaaGreatDoor
open Go.RowKit
set_option linter.unusedVariables false
set_option linter.unusedSimpArgs false

theorem ofInt_i64 (a : Nat) (ha : a < 9223372036854775808) : (BitVec.ofInt 64 (a : Int)).toNat = a := by
  rw [BitVec.ofInt_natCast, BitVec.toNat_ofNat]; exact Nat.mod_eq_of_lt (by omega)
theorem i64_or_nat (a b : Nat) (ha : a < 9223372036854775808) (hb : b < 9223372036854775808) : bits .or .i64 (a : Int) (b : Int) = ((a ||| b : Nat) : Int) := by
  have hx : a ||| b < 2 ^ 63 := Nat.or_lt_two_pow (by omega) (by omega)
  show IntKind.i64.wrap ((BitVec.ofInt 64 (a : Int) ||| BitVec.ofInt 64 (b : Int)).toNat : Int) = _
  rw [BitVec.toNat_or, ofInt_i64 a ha, ofInt_i64 b hb, IntKind.wrap_i64]
  omega
theorem or_add (a b : Nat) (hb : b < 256) : (a * 256) ||| b = a * 256 + b := by
  have := Nat.two_pow_add_eq_or_of_lt (i := 8) (b := b) (by simpa using hb) a
  rw [Nat.mul_comm]; simpa using this.symm

theorem or_shift (a b : Nat) (ha : a < 281474976710656) (hb : b < 256) : bits .or .i64 ((a : Int) * 256) (b : Int) = ((a * 256 + b : Nat) : Int) := by
  have h : ((a : Int) * 256) = ((a * 256 : Nat) : Int) := by omega
  rw [h, i64_or_nat _ _ (by omega) (by omega), or_add _ _ hb]

/-- The big-endian number of bytes. -/
def beN (l : List UInt8) : Nat := l.foldl (fun a b => a * 256 + b.toNat) 0
theorem beN_snoc (l : List UInt8) (b : UInt8) : beN (l ++ [b]) = beN l * 256 + b.toNat := by simp [beN, List.foldl_append]
theorem beN_lt (l : List UInt8) : beN l < 256 ^ l.length := by
  suffices h : ∀ (m : List UInt8), beN m.reverse < 256 ^ m.length by
    have := h l.reverse; simpa using this
  intro m
  induction m with
  | nil => simp [beN]
  | cons b t ih =>
    rw [List.reverse_cons, beN_snoc, List.length_cons, Nat.pow_succ]
    have := b.toNat_lt
    omega
theorem beN_lt7 (l : List UInt8) (h : l.length ≤ 7) : beN l < 72057594037927936 := by
  have h1 := beN_lt l
  have h2 : 256 ^ l.length ≤ 256 ^ 7 := Nat.pow_le_pow_right (by omega) h
  have h3 : (256 : Nat) ^ 7 = 72057594037927936 := by decide
  omega
theorem beN_lt6 (l : List UInt8) (h : l.length ≤ 6) : beN l < 281474976710656 := by
  have h1 := beN_lt l
  have h2 : 256 ^ l.length ≤ 256 ^ 6 := Nat.pow_le_pow_right (by omega) h
  have h3 : (256 : Nat) ^ 6 = 281474976710656 := by decide
  omega
theorem take_snoc (s : ByteArray) (k : Nat) (h : k < s.size) : s.data.toList.take (k + 1) = s.data.toList.take k ++ [s[k]] := by
  rw [List.take_succ_eq_append_getElem (by simpa using h)]; rfl
theorem beN_take (s : ByteArray) (k : Nat) (h : k < s.size) : beN (s.data.toList.take (k + 1)) = beN (s.data.toList.take k) * 256 + s[k].toNat := by
  rw [take_snoc s k h, beN_snoc]

def fixOk (s : ByteArray) (n : Int) : Bool := inR n 1 7 && decide (n ≤ s.size)
def decFixed (s : ByteArray) (n : Int) : Int := if fixOk s n then (beN (s.data.toList.take n.toNat) : Int) else 0

theorem decodeFixed_no (s : ByteArray) (n : Int) (h : fixOk s n = false) : decFixed s n = 0 := by simp [decFixed, h]
theorem decodeFixed_yes (s : ByteArray) (n : Int) (h : fixOk s n = true) : decFixed s n = (beN (s.data.toList.take n.toNat) : Int) := by simp [decFixed, h]

end Go.Proofs.YtpdmdfkcaabnaaaGreatDoor
