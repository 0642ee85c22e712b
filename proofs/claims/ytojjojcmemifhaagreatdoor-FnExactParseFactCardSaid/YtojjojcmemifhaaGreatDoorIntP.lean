/- Plain laws of decimal numerals. No condition, no program in sight. -/
import Derived.Test.YtojjojcmemifhaaGreatDoorFmtL
import Derived.Lib.AtoiTie
import Derived.Lib.AtoiAll
namespace Go.Proofs.YtojjojcmemifhaaGreatDoor
open Go.RowKit
set_option linter.unusedVariables false
set_option linter.unusedSimpArgs false
def isDig (b : UInt8) : Bool := decide (48 ≤ b.toNat) && decide (b.toNat ≤ 57)
/-- What the digits of a text come to, whatever lies between them; how many there are. -/
def digVal (l : List UInt8) : Nat := l.foldl (fun a b => if isDig b then a * 10 + (b.toNat - 48) else a) 0
def digCnt (l : List UInt8) : Nat := l.countP isDig
theorem digVal_snoc (l : List UInt8) (b : UInt8) : digVal (l ++ [b]) = if isDig b then digVal l * 10 + (b.toNat - 48) else digVal l := by simp [digVal, List.foldl_append]
theorem digCnt_snoc (l : List UInt8) (b : UInt8) : digCnt (l ++ [b]) = digCnt l + if isDig b then 1 else 0 := by
  simp [digCnt, List.countP_append, List.countP_cons, List.countP_nil]
theorem digCnt_le (l : List UInt8) : digCnt l ≤ l.length := List.countP_le_length
theorem digVal_rev : ∀ (m : List UInt8), digVal m.reverse < 10 ^ digCnt m.reverse
  | [] => by simp [digVal, digCnt]
  | b :: t => by
    have ih := digVal_rev t
    rw [List.reverse_cons, digVal_snoc, digCnt_snoc]
    cases hb : isDig b with
    | true =>
      have h1 : b.toNat ≤ 57 := by unfold isDig at hb; simp only [Bool.and_eq_true, decide_eq_true_eq] at hb; exact hb.2
      simp only [if_true, Nat.pow_succ]
      omega
    | false => simpa using ih
theorem digVal_lt (l : List UInt8) : digVal l < 10 ^ digCnt l := by have := digVal_rev l.reverse; simpa using this
theorem dig_of (d : Nat) (h : d < 10) : isDig (UInt8.ofNat (48 + d)) = true ∧ (UInt8.ofNat (48 + d)).toNat = 48 + d := by
  have e : (UInt8.ofNat (48 + d)).toNat = 48 + d := by simp; omega
  refine ⟨?_, e⟩
  unfold isDig
  rw [e]
  simp; omega
theorem dec_all : ∀ u : Nat, ∀ b ∈ Lib.decDigits u, isDig b = true := by
  intro u
  induction u using Nat.strongRecOn with
  | _ u ih =>
    intro b hb
    rw [Lib.decDigits] at hb
    split at hb
    · simp only [List.mem_singleton] at hb; subst hb; exact (dig_of u (by omega)).1
    · rcases List.mem_append.1 hb with h | h
      · exact ih (u / 10) (by omega) b h
      · simp only [List.mem_singleton] at h; subst h; exact (dig_of (u % 10) (by omega)).1
theorem dec_val : ∀ u : Nat, digVal (Lib.decDigits u) = u := by
  intro u
  induction u using Nat.strongRecOn with
  | _ u ih =>
    rw [Lib.decDigits]
    split
    · obtain ⟨h1, h2⟩ := dig_of u (by omega)
      show digVal ([] ++ [_]) = _
      rw [digVal_snoc, h1, h2]; simp [digVal]
    · obtain ⟨h1, h2⟩ := dig_of (u % 10) (by omega)
      rw [digVal_snoc, h1, h2, ih (u / 10) (by omega)]; simp; omega
theorem dec_cnt (u : Nat) : digCnt (Lib.decDigits u) = (Lib.decDigits u).length := by
  unfold digCnt; exact List.countP_eq_length.2 (dec_all u)
theorem dec_len9 (u : Nat) (h : u ≤ 999999999) : (Lib.decDigits u).length ≤ 9 := by
  rw [Lib.decDigits_length]
  have h1 := Lib.nDigits_pos u
  rcases Nat.lt_or_ge 9 (Lib.nDigits u) with h2 | h2
  · exfalso
    have key : ∀ (k u : Nat), u < 10 ^ k → 1 ≤ k → Lib.nDigits u ≤ k := by
      intro k
      induction k with
      | zero => intro u _ h; omega
      | succ k ih =>
        intro u hu _
        by_cases h10 : u < 10
        · rw [Lib.nDigits_small h10]; omega
        · rw [Lib.nDigits_big h10]
          have hk : 1 ≤ k := by
            rcases Nat.eq_zero_or_pos k with h | h
            · subst h; simp at hu; omega
            · exact h
          have := ih (u / 10) (by rw [Nat.pow_succ] at hu; omega) hk
          omega
    have := key 9 u (by have : (10 : Nat) ^ 9 = 1000000000 := by decide
                        omega) (by omega)
    omega
  · exact h2
theorem dec_ne (u : Nat) : ∃ b r, Lib.decDigits u = b :: r ∧ isDig b = true := by
  have h1 := Lib.nDigits_pos u
  have h2 := Lib.decDigits_length u
  cases hd : Lib.decDigits u with
  | nil => rw [hd] at h2; simp at h2; omega
  | cons b r => exact ⟨b, r, rfl, dec_all u b (by rw [hd]; simp)⟩
theorem decFrom_append : ∀ (l m : List UInt8) (a : Nat), Lib.decFrom a (l ++ m) = (Lib.decFrom a l).bind fun x => Lib.decFrom x m
  | [], m, a => rfl
  | b :: r, m, a => by
    simp only [List.cons_append, Lib.decFrom]
    cases Lib.digitVal b with
    | none => rfl
    | some d => exact decFrom_append r m _
theorem decFrom_dec : ∀ u : Nat, Lib.decFrom 0 (Lib.decDigits u) = some u := by
  intro u
  induction u using Nat.strongRecOn with
  | _ u ih =>
    rw [Lib.decDigits]
    split
    · obtain ⟨h1, h2⟩ := dig_of u (by omega)
      have h3 : Lib.digitVal (UInt8.ofNat (48 + u)) = some u := by unfold Lib.digitVal; rw [h2, if_pos (by omega)]; simp
      simp only [Lib.decFrom, h3]
      simp
    · obtain ⟨h1, h2⟩ := dig_of (u % 10) (by omega)
      have h3 : Lib.digitVal (UInt8.ofNat (48 + u % 10)) = some (u % 10) := by unfold Lib.digitVal; rw [h2, if_pos (by omega)]; simp
      rw [decFrom_append, ih (u / 10) (by omega)]
      simp only [Lib.decFrom, h3, Option.bind_some]
      simp; omega
theorem decNat_dec (u : Nat) : Lib.decNat (Lib.decDigits u) = some u := by
  obtain ⟨b, r, h, _⟩ := dec_ne u
  unfold Lib.decNat
  rw [h]
  show Lib.decFrom 0 (b :: r) = _
  rw [← h]; exact decFrom_dec u
theorem atoi_itoa (n : Int) : Lib.atoi (Lib.itoa n) = some n := by
  unfold Lib.itoa
  split
  · unfold Lib.atoi
    simp only
    rw [if_pos (by rfl), decNat_dec]
    simp; omega
  · obtain ⟨b, r, h, hb⟩ := dec_ne n.toNat
    have hd := decNat_dec n.toNat
    rw [h] at hd ⊢
    have h1 : ¬ (b == 45) = true := by
      intro e
      have e2 : b = 45 := by simpa using e
      subst e2; revert hb; decide
    have h2 : ¬ (b == 43) = true := by
      intro e
      have e2 : b = 43 := by simpa using e
      subst e2; revert hb; decide
    unfold Lib.atoi
    simp only
    rw [if_neg h1, if_neg h2, hd]
    simp; omega
theorem itoa_len10 (n : Int) (h0 : -999999999 ≤ n) (h1 : n ≤ 999999999) : (Lib.itoa n).length ≤ 10 := by
  unfold Lib.itoa
  split
  · have := dec_len9 n.natAbs (by omega); simp; omega
  · have := dec_len9 n.toNat (by omega); omega
theorem atoiAll_itoa (n : Int) (h0 : -999999999 ≤ n) (h1 : n ≤ 999999999) : Lib.atoiAll (Lib.itoa n) = .ok n := by
  have h2 := itoa_len10 n h0 h1
  rw [Lib.atoiAll_short _ (by omega), atoi_itoa]
  rfl
/-- Whether a text is a small number's own, and whose. -/
def IntIs (t : List UInt8) (v : Int) (ok : Bool) : Prop := (∃ n : Int, -999999999 ≤ n ∧ n ≤ 999999999 ∧ Lib.itoa n = t ∧ v = n ∧ ok = true) ∨ ((∀ n : Int, -999999999 ≤ n → n ≤ 999999999 → Lib.itoa n ≠ t) ∧ v = 0 ∧ ok = false)
theorem IntIs.one {t : List UInt8} {v v' : Int} {k k' : Bool} (h : IntIs t v k) (g : IntIs t v' k') : v = v' ∧ k = k' := by
  rcases h with ⟨n, a, b, c, rfl, rfl⟩ | ⟨hn, rfl, rfl⟩ <;> rcases g with ⟨n', a', b', c', rfl, rfl⟩ | ⟨hn', rfl, rfl⟩
  · have e := atoi_itoa v
    have e' := atoi_itoa v'
    rw [c] at e; rw [c'] at e'
    rw [e] at e'
    exact ⟨Option.some.inj e', rfl⟩
  · exact absurd c (hn' _ a b)
  · exact absurd c' (hn _ a' b')
  · exact ⟨rfl, rfl⟩
/-- The value that the reference reads off a text: of the first eleven bytes' digits, with the sign. -/
def readN (t : List UInt8) : Int := if t.head? = some 45 then -(digVal (t.take 11) : Int) else (digVal (t.take 11) : Int)
theorem read_itoa {n : Int} (h0 : -999999999 ≤ n) (h1 : n ≤ 999999999) : readN (Lib.itoa n) = n ∧ digCnt ((Lib.itoa n).take 11) ≤ 9 := by
  have hl := itoa_len10 n h0 h1
  unfold readN
  rw [List.take_of_length_le (by omega)]
  unfold Lib.itoa
  split
  · rw [if_pos (by rfl)]
    have e : digVal (45 :: Lib.decDigits n.natAbs) = digVal (Lib.decDigits n.natAbs) := by
      unfold digVal; rw [List.foldl_cons]; rfl
    have e2 : digCnt (45 :: Lib.decDigits n.natAbs) = digCnt (Lib.decDigits n.natAbs) := by
      unfold digCnt; rw [List.countP_cons]; rfl
    rw [e, e2, dec_val, dec_cnt]
    exact ⟨by omega, dec_len9 _ (by omega)⟩
  · obtain ⟨b, r, h, hb⟩ := dec_ne n.toNat
    rw [if_neg (by
      rw [h]
      intro e
      simp only [List.head?_cons, Option.some.injEq] at e
      subst e; revert hb; decide), dec_val, dec_cnt]
    exact ⟨by omega, dec_len9 _ (by omega)⟩
end Go.Proofs.YtojjojcmemifhaaGreatDoor
