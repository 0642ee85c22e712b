/- FormatInt of the program and of the reference: a number's decimal numeral. Condition: what the program's reads its table as (not below 100). -/
import Derived.Test.YtojjojcmemifhaaGreatDoorCalc
import Derived.Test.YtojjojcmemifhaaGreatDoorBytes
import Derived.Test.YtojjojcmemifhaaGreatDoorEncFixed
import Derived.Test.YtojjojcmemifhaaGreatDoorShelf
import Derived.Lib.ItoaNum
import Derived.Lib.ItoaLen
import Derived.IntWalk
namespace Go.Proofs.YtojjojcmemifhaaGreatDoor
open Go.RowKit
set_option linter.unusedVariables false
set_option linter.unusedSimpArgs false
theorem ret_str' {a b : ByteArray} (h : a = b) : Ending.returned (.string a) = .returned (.string b) := by rw [h]
/-- The digits of what is left; none of 0. -/
def decs (q : Nat) : List UInt8 := if q = 0 then [] else Lib.decDigits q
theorem decs_step {q : Nat} (h : 0 < q) : decs q = decs (q / 10) ++ [UInt8.ofNat (48 + q % 10)] := by
  unfold decs
  rw [if_neg (by omega), Lib.decDigits]
  by_cases h1 : q < 10
  · rw [dif_pos h1, if_pos (by omega), Nat.mod_eq_of_lt h1]; rfl
  · rw [dif_neg h1, if_neg (by omega)]
theorem decs_pos {q : Nat} (h : 0 < q) : decs q = Lib.decDigits q := by unfold decs; rw [if_neg (by omega)]
/-- A numeral as a string. -/
def numS (n : Int) : ByteArray := ⟨(Lib.itoa n).toArray⟩
theorem numS_zero : numS 0 = ⟨#[48]⟩ := by unfold numS Lib.itoa; rw [if_neg (by omega), show (0 : Int).toNat = 0 from rfl, Lib.decDigits_one (by omega)]; rfl
theorem numS_pos {m : Nat} {l : List UInt8} (h : 0 < m) (hl : l = decs m) : numS (m : Int) = ⟨l.toArray⟩ := by
  unfold numS Lib.itoa
  rw [if_neg (by omega), Int.toNat_natCast, hl, decs_pos h]
theorem numS_neg {m : Nat} {l : List UInt8} (h : 0 < m) (hl : l = decs m) : numS (-(m : Int)) = ⟨(45 :: l).toArray⟩ := by
  unfold numS Lib.itoa
  rw [if_pos (by omega), hl, decs_pos h]
  congr 3
  simp
theorem decs_len {q m : Nat} {lo : List UInt8} (h : decs q ++ lo = decs m) (hm : m ≤ 9223372036854775808) : lo.length ≤ 21 := by
  have h1 := congrArg List.length h
  rw [List.length_append] at h1
  have h2 : (decs m).length ≤ 21 := by
    unfold decs
    split
    · simp
    · have := Lib.itoa_length_le (-(m : Int)) (by omega) (by omega)
      unfold Lib.itoa at this
      rw [if_pos (by omega)] at this
      simp at this
      omega
  omega
theorem tmod_neg (q r : Nat) (h : q % 10 = r) : (-(q : Int)).tmod 10 = -(r : Int) := by
  rw [Int.neg_tmod, Int.tmod_eq_emod_of_nonneg (by omega)]; omega
theorem tdiv_neg (q : Nat) : (-(q : Int)).tdiv 10 = -((q / 10 : Nat) : Int) := by
  rw [Int.neg_tdiv, Int.tdiv_eq_ediv_of_nonneg (by omega)]; omega
theorem dig_str (r : Nat) (lo : List UInt8) : (⟨#[48 + UInt8.ofNat r]⟩ : ByteArray) ++ ⟨lo.toArray⟩ = ⟨(UInt8.ofNat (48 + r) :: lo).toArray⟩ := by
  rw [UInt8.ofNat_add]
  apply ByteArray.ext
  simp
theorem dig_str0 (lo : List UInt8) : (⟨#[48]⟩ : ByteArray) ++ ⟨lo.toArray⟩ = ⟨(UInt8.ofNat 48 :: lo).toArray⟩ := by
  apply ByteArray.ext
  simp
theorem dig_strV (r : Nat) (lo : List UInt8) : Value.string ((⟨#[48 + UInt8.ofNat r]⟩ : ByteArray) ++ ⟨lo.toArray⟩) = .string ⟨(UInt8.ofNat (48 + r) :: lo).toArray⟩ := by rw [dig_str]
theorem dig_strV0 (lo : List UInt8) : Value.string ((⟨#[48]⟩ : ByteArray) ++ ⟨lo.toArray⟩) = .string ⟨(UInt8.ofNat 48 :: lo).toArray⟩ := by rw [dig_str0]
set_option maxRecDepth 100000 in
set_option maxHeartbeats 1600000 in
theorem specFormatInt_any (n : Int) (w : World) (hI : I64 n) :
    Calls Tryz.prog 115 #[.int .i64 n] w fun e w' => e = .returned (.string (numS n)) ∧ Below w.heap.size w w' := by
  obtain ⟨hlo, hhi⟩ := hI
  rcases Int.lt_trichotomy n 0 with hn | rfl | hn
  · obtain ⟨m, hm⟩ := Int.eq_ofNat_of_zero_le (a := -n) (by omega)
    obtain rfl : n = -(m : Int) := by omega
    clear hm
    have hm0 : 0 < m := by omega
    have hm1 : m ≤ 9223372036854775808 := by omega
    have hne : (-(m : Int) == 0) = false := by simp; omega
    have hne' : ¬ (m : Int) = 0 := by omega
    have hd0 : decide (-(m : Int) < 0) = true := by simp; omega
    go_enter Tryz.func115, Tryz.ntmps115
    go_wp2
    go_loopw [0, 3] (fun x t wr => ∃ (q : Nat) (lo : List UInt8), x = .int .i64 (-(q : Int)) ∧ q ≤ m ∧ t = .string ⟨lo.toArray⟩ ∧ Hid (decs q ++ lo = decs m) ∧ Below w.heap.size w wr) (fun x _ _ => (-(intOf x)).toNat)
    case atStart => exact ⟨m, [], rfl, Nat.le_refl _, rfl, Lib.hid (by simp), Below.refl _ _⟩
    case round =>
      obtain ⟨q, lo, rfl, hq, rfl, HL, hbel⟩ := hrel
      have hL := decs_len HL.out hm1
      by_cases hq0 : q = 0
      · subst hq0
        have Hf := Lib.hid (numS_neg hm0 (show lo = decs m by rw [← HL.out]; rfl))
        go_wp2
        go_ret
        exact ⟨ret_str' (by rw [Hf.out]; rfl), hbel⟩
      · have hq1 : 0 < q := by omega
        have hqne : (-(q : Int) != 0) = true := by simp; omega
        have hqne' : ¬ (q : Int) = 0 := by omega
        have hdiv := tdiv_neg q
        have HS := Lib.hid (show decs (q / 10) ++ (UInt8.ofNat (48 + q % 10) :: lo) = decs m by rw [← HL.out, decs_step hq1]; simp)
        obtain ⟨r, hr⟩ : ∃ r, r = q % 10 := ⟨_, rfl⟩
        have hr10 : r < 10 := by omega
        have hrem := tmod_neg q r hr.symm
        have HR := Lib.hid hr
        clear hr
        have hcv := conv_one (48 + (r : Int)) (by omega) (by omega)
        by_cases hr0 : r = 0
        · have hrz : (r : Int) = 0 := by omega
          have Hrz := Lib.hid hr0
          subst hr0
          have hcv0 := conv_one 48 (by omega) (by omega)
          clear hcv
          go_wp2
          go_roundw
          case rel => exact ⟨q / 10, UInt8.ofNat 48 :: lo, rfl, by omega, dig_strV0 lo, Lib.hid (by rw [← HS.out, ← HR.out]), ba hbel⟩
          case measure => simp [intOf]; omega
        · have hr1 : 0 < r := by omega
          have hneg : decide (-(r : Int) < 0) = true := by simp; omega
          go_wp2
          go_roundw
          case rel => exact ⟨q / 10, UInt8.ofNat (48 + r) :: lo, rfl, by omega, dig_strV r lo, Lib.hid (by rw [← HS.out, ← HR.out]), ba hbel⟩
          case measure => simp [intOf]; omega
  · go_enter Tryz.func115, Tryz.ntmps115
    go_wp2
    go_ret
    exact ⟨ret_str' (by rw [numS_zero]), Below.refl _ _⟩
  · obtain ⟨m, rfl⟩ := Int.eq_ofNat_of_zero_le (a := n) (by omega)
    have hm0 : 0 < m := by omega
    have hm1 : m ≤ 9223372036854775808 := by omega
    have hne : ((m : Int) == 0) = false := by simp; omega
    have hd0 : decide ((m : Int) < 0) = false := by simp
    go_enter Tryz.func115, Tryz.ntmps115
    go_wp2
    go_loopw [0, 3] (fun x t wr => ∃ (q : Nat) (lo : List UInt8), x = .int .i64 (q : Int) ∧ q ≤ m ∧ t = .string ⟨lo.toArray⟩ ∧ Hid (decs q ++ lo = decs m) ∧ Below w.heap.size w wr) (fun x _ _ => (intOf x).toNat)
    case atStart => exact ⟨m, [], rfl, Nat.le_refl _, rfl, Lib.hid (by simp), Below.refl _ _⟩
    case round =>
      obtain ⟨q, lo, rfl, hq, rfl, HL, hbel⟩ := hrel
      have hL := decs_len HL.out hm1
      by_cases hq0 : q = 0
      · subst hq0
        have Hf := Lib.hid (numS_pos hm0 (show lo = decs m by rw [← HL.out]; rfl))
        go_wp2
        go_ret
        exact ⟨ret_str' (by rw [Hf.out]), hbel⟩
      · have hq1 : 0 < q := by omega
        have hqne : ((q : Int) != 0) = true := by simp; omega
        have HS := Lib.hid (show decs (q / 10) ++ (UInt8.ofNat (48 + q % 10) :: lo) = decs m by rw [← HL.out, decs_step hq1]; simp)
        have hcv := conv_one (48 + (q : Int) % 10) (by omega) (by omega)
        go_wp2
        go_roundw
        case rel => exact ⟨q / 10, UInt8.ofNat (48 + q % 10) :: lo, by go_num, by omega, dig_strV (q % 10) lo, HS, ba hbel⟩
        case measure => simp [intOf]; omega
/-- The library's table of powers reads as its initialiser lays it, whatever is made behind the heap. -/
def Tab (w : World) : Prop := Lib.TabIs Tryz.prog w "internal/strconv.uint64pow10" .u64 Lib.pow10Tab
theorem implFormatInt_small (n : Nat) (w : World) (h : n < 100) :
    Calls Tryz.prog 106 #[.int .i64 n] w fun e w' => e = .returned (.string (numS n)) ∧ w = w' := by
  have Hs := Lib.hid (show numS n = ⟨(Lib.decDigits n).toArray⟩ by unfold numS Lib.itoa; rw [if_neg (by omega), Int.toNat_natCast])
  go_enter Tryz.func106, Tryz.ntmps106
  go_wp2_with fail
  refine (Tryz.strconv_Itoa_small n h _).mono ?_
  rintro e w1 ⟨rfl, hw⟩
  cases hw
  go_wp2
  go_ret
  exact ⟨ret_str' (by rw [Hs.out]), rfl⟩
theorem implFormatInt_any (n : Int) (w : World) (hI : I64 n) (hT : Tab w) :
    Calls Tryz.prog 106 #[.int .i64 n] w fun e w' => e = .returned (.string (numS n)) ∧ Below w.heap.size w w' := by
  go_enter Tryz.func106, Tryz.ntmps106
  go_wp2_with fail
  refine (Tryz.strconv_Itoa n hI.1 hI.2 _ hT).mono ?_
  rintro e w1 ⟨rfl, k, os, rfl⟩
  have hb : Below w.heap.size w (Sort.grow (w.drewN k) os) := ⟨rfl, rfl, rfl, by simp [Sort.grow, World.drewN], fun i hi => by simp only [Sort.grow]; rw [Array.getElem?_append_left (by simpa using hi)]; rfl⟩
  go_wp2
  go_ret
  exact ⟨rfl, hb⟩
end Go.Proofs.YtojjojcmemifhaaGreatDoor
