/- EncodeVarint, of the program and of the reference: both return the bytes 'encVar'. No condition. -/
import Derived.Test.YtkjlfhccjpimcaaDoorBytes
namespace Go.Proofs.YtkjlfhccjpimcaaDoor
open Go.RowKit
set_option linter.unusedVariables false
set_option linter.unusedSimpArgs false

/-- The bytes of a number that is not negative, seven bits a byte. -/
def varBytes : Nat → Nat → List UInt8
  | 0, n => [UInt8.ofNat n]
  | f + 1, n => if n < 128 then [UInt8.ofNat n] else UInt8.ofNat (128 + n % 128) :: varBytes f (n / 128)
theorem varBytes_length (f n : Nat) : (varBytes f n).length ≤ f + 1 := by
  induction f generalizing n with
  | zero => simp [varBytes]
  | succ f ih =>
    simp only [varBytes]
    split
    · simp
    · simp; exact ih _
theorem pow128 : (128 : Nat) ^ 9 = 9223372036854775808 := by decide
def mostVar : Nat := 562949953421311
def encVarN (n : Nat) : List UInt8 := varBytes 8 n
def encVar (n : Int) : ByteArray := if inR n 0 562949953421311 then ⟨(encVarN n.toNat).toArray⟩ else ⟨#[]⟩

theorem or128_all : ∀ a : Fin 256, bits .or .u8 (a.val : Int) 128 = ((128 + a.val % 128 : Nat) : Int) := by decide +kernel
theorem or128 (k : Nat) : bits .or .u8 ((k : Int) % 256) 128 = ((UInt8.ofNat (128 + k % 128)).toNat : Int) := by
  have h := or128_all ⟨k % 256, by omega⟩
  have e : (((⟨k % 256, by omega⟩ : Fin 256).val : Nat) : Int) = (k : Int) % 256 := by simp
  rw [e] at h
  rw [h, toNat_ofNat_lt _ (by omega)]
  simp only []
  omega
theorem add128 (k : Nat) : (128 + (k : Int) % 128) = ((UInt8.ofNat (128 + k % 128)).toNat : Int) := by
  rw [toNat_ofNat_lt _ (by omega)]; omega
theorem low128 (k : Nat) (h : k < 128) : (k : Int) = ((UInt8.ofNat k).toNat : Int) := by
  rw [toNat_ofNat_lt _ (by omega)]
theorem bcells_snoc (l : List UInt8) (b : UInt8) : bcells l ++ [Value.int .u8 (b.toNat : Int)] = bcells (l ++ [b]) := by simp [bcells]
theorem varBytes_more (f k : Nat) (h : 128 ≤ k) : varBytes (f + 1) k = UInt8.ofNat (128 + k % 128) :: varBytes f (k / 128) := by
  simp only [varBytes]; rw [if_neg (by omega)]
theorem varBytes_last (f k : Nat) (h : k < 128) : varBytes f k = [UInt8.ofNat k] := by
  cases f <;> simp [varBytes, h]
theorem pow128_step (k f : Nat) (h : k < 128 ^ (f + 1 + 1)) : k / 128 < 128 ^ (f + 1) := by
  rw [Nat.pow_succ] at h
  exact Nat.div_lt_of_lt_mul (by rw [Nat.mul_comm]; exact h)

set_option maxRecDepth 100000 in
set_option maxHeartbeats 400000 in
theorem f12_any (n : Int) (w : World) :
    Calls Tryd.prog 12 #[.int .i64 n] w fun e w' => e = .returned (.string (encVar n)) ∧ Below w.heap.size w w' := by
  by_cases h1 : inR n 0 562949953421311 = true
  · have hb := inR_true h1
    have Hfin := Lib.hid (show encVar n = ⟨(varBytes 8 n.toNat).toArray⟩ by simp [encVar, h1, encVarN])
    obtain ⟨m, rfl⟩ := Int.eq_ofNat_of_zero_le (a := n) (by omega)
    have hm9 : m < 128 ^ 9 := by have e9 := pow128; omega
    have HB := Lib.hid hm9
    clear hb hm9
    obtain ⟨i0, hi, hz0, hz1, hz2⟩ := info_parts infoByte
    go_enter Tryd.func12, Tryd.ntmps12
    go_wp2_with (first
      | (go_at_call 41; refine (f41_any _ _ _ _).mono ?_; rintro e w' ⟨rfl, rfl⟩)
      | (go_at_call 36; refine (f36_any _ _ _ _).mono ?_; rintro e w' ⟨rfl, rfl⟩)
      )
    go_loopw [0, 3] (fun x v wr => ∃ (k f : Nat) (pre : List UInt8), x = .int .i64 k ∧ k ≤ m ∧ pre.length + f = 8 ∧ k < 128 ^ (f + 1) ∧ varBytes 8 m = pre ++ varBytes f k ∧ wr.ownsRow w.heap.size 5 1 v pre.length (bcells pre) ∧ Below w.heap.size w wr)
      (fun x _ _ => (intOf x).toNat)
    case atStart => exact ⟨m, 8, [], rfl, Nat.le_refl _, rfl, HB.out, rfl, World.ownsRow_lit _ _ _ (Nat.le_refl _) (by simp) (by simp), (Below.refl _ _).alloc (Nat.le_refl _) _⟩
    case round =>
      obtain ⟨k, f, pre, rfl, hkm, hpf, hkf, heq, hown, hbel⟩ := hrel
      have HQ := Lib.hid heq
      have HK := Lib.hid hkf
      have hk63 : k ≤ 9223372036854775807 := by have h9 := HB.out; have e9 := pow128; omega
      clear heq hkf h1
      by_cases hlt : 128 ≤ k
      · go_wp2_with (at_builtin; refine append_news slByte rfl _ _ rfl _ _ _ hbel hown rfl _ 1 rfl rfl ?c1 ?c2 ?c3 ?_)
        case c1 => simp [Value.oneCell']
        case c2 => omega
        case c3 => unfold maxLen; omega
        · intro v' w1 hown1 _ hb2
          first | rw [or128] at hown1 | rw [add128] at hown1
          rw [bcells_snoc] at hown1
          cases f with
          | zero => have := HK.out; exfalso; simp at this; omega
          | succ f =>
            have HS := Lib.hid (varBytes_more f k hlt)
            clear hown hbel
            go_wp2
            go_roundw
            case rel => exact ⟨k / 128, f, pre ++ [UInt8.ofNat (128 + k % 128)], by simp, by omega, by simp; omega, pow128_step k f HK.out, by rw [HQ.out, HS.out]; simp, by simpa using hown1, hb2⟩
            case measure => simp [intOf]; omega
      · go_wp2_with (at_builtin; refine append_news slByte rfl _ _ rfl _ _ _ hbel hown rfl _ 1 rfl rfl ?c1 ?c2 ?c3 ?_)
        case c1 => simp [Value.oneCell']
        case c2 => omega
        case c3 => unfold maxLen; omega
        · intro v' w1 hown1 _ hb2
          rw [low128 k (by omega), bcells_snoc] at hown1
          have HS := Lib.hid (varBytes_last f k (by omega))
          have hcv := own_string hown1
          clear hown hbel hown1
          go_wp2
          go_ret
          exact ⟨ret_str (by rw [Hfin.out]; simp [HQ.out, HS.out]), hb2⟩
  · have Hfin := Lib.hid (show encVar n = ⟨#[]⟩ by simp [encVar, h1])
    go_enter Tryd.func12, Tryd.ntmps12
    go_wp2_with (first
      | (go_at_call 41; refine (f41_any _ _ _ _).mono ?_; rintro e w' ⟨rfl, rfl⟩)
      | (go_at_call 36; refine (f36_any _ _ _ _).mono ?_; rintro e w' ⟨rfl, rfl⟩)
      )
    go_ret
    exact ⟨ret_str (by rw [Hfin.out]), Below.refl _ _⟩
end Go.Proofs.YtkjlfhccjpimcaaDoor
