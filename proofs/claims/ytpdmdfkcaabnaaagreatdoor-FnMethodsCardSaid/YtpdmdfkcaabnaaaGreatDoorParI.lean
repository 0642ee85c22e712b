/- ParseInt of the program and of the reference: both return what 'IntIs' says. Conditions: the text is no longer than 2^20; what the library's table and its two error variables hold. -/
import Derived.Test.YtpdmdfkcaabnaaaGreatDoorMB
import Derived.Test.YtpdmdfkcaabnaaaGreatDoorFixed
import Derived.Test.YtpdmdfkcaabnaaaGreatDoorMC
import Derived.Laws.Strings
import Derived.Lib.AtoiAllCases
namespace Go.Proofs.YtpdmdfkcaabnaaaGreatDoor
open Go.RowKit
set_option linter.unusedVariables false
set_option linter.unusedSimpArgs false
theorem int_no {t : List UInt8} (h : ∀ n : Int, -999999999 ≤ n → n ≤ 999999999 → Lib.itoa n ≠ t) : IntIs t 0 false := .inr ⟨h, rfl, rfl⟩
theorem int_yes {t : List UInt8} {n : Int} (h0 : -999999999 ≤ n) (h1 : n ≤ 999999999) (h : Lib.itoa n = t) : IntIs t n true := .inl ⟨n, h0, h1, h, rfl, rfl⟩
theorem str_ne {s : ByteArray} {l : List UInt8} (h : l ≠ s.data.toList) : (l == s.toList) = false := by rw [beq_eq_false_iff_ne, ByteArray.toList_eq]; exact h
theorem str_eq {s : ByteArray} {l : List UInt8} (h : l = s.data.toList) : (⟨l.toArray⟩ : ByteArray) = s := by rw [h]
theorem read_bd (t : List UInt8) (h : digCnt (t.take 11) ≤ 9) : -999999999 ≤ readN t ∧ readN t ≤ 999999999 := by
  have h1 := digVal_lt (t.take 11)
  have h2 : 10 ^ digCnt (t.take 11) ≤ 10 ^ 9 := Nat.pow_le_pow_right (by omega) h
  have h3 : (10 : Nat) ^ 9 = 1000000000 := by decide
  unfold readN
  split <;> omega
theorem digVal_11 (t : List UInt8) (k : Nat) (hk : k ≤ 11) : digVal (t.take k) < 100000000000 := by
  have h1 := digVal_lt (t.take k)
  have h4 := digCnt_le (t.take k)
  have h5 : (t.take k).length ≤ k := by rw [List.length_take]; omega
  have h2 : 10 ^ digCnt (t.take k) ≤ 10 ^ 11 := Nat.pow_le_pow_right (by omega) (by omega)
  have h3 : (10 : Nat) ^ 11 = 100000000000 := by decide
  omega
/-- What parsing ends in. -/
def ParEnd (s : ByteArray) (w : World) (e : Ending) (w' : World) : Prop := ∃ (v : Int) (k : Bool), e = .returned (.tuple #[.int .i64 v, .bool k]) ∧ IntIs s.data.toList v k ∧ Below w.heap.size w w'
theorem ParEnd.mk {s : ByteArray} {w w' : World} {e : Ending} (v : Int) (k : Bool) (he : e = .returned (.tuple #[.int .i64 v, .bool k])) (hI : IntIs s.data.toList v k) (hB : Below w.heap.size w w') : ParEnd s w e w' := ⟨v, k, he, hI, hB⟩
set_option maxRecDepth 100000 in
set_option maxHeartbeats 3200000 in
theorem specParseInt_any (s : ByteArray) (w : World) (hs : s.size ≤ 1048576) :
    Calls Tryz.prog 212 #[.string s] w (ParEnd s w) := by
  have hsz : s.data.toList.length = s.size := by simp
  go_enter Tryz.func212, Tryz.ntmps212
  go_wp2
  go_loop [4, 5, 6] (fun x c i => ∃ k y m : Nat, i = .int .i64 k ∧ k ≤ s.size ∧ k ≤ 11 ∧ x = .int .i64 y ∧ c = .int .i64 m ∧ Hid (y = digVal (s.data.toList.take k)) ∧ Hid (m = digCnt (s.data.toList.take k))) (fun _ _ i => 11 - (intOf i).toNat)
  case atStart => exact ⟨0, 0, 0, rfl, Nat.zero_le _, by omega, rfl, rfl, Lib.hid rfl, Lib.hid rfl⟩
  case round =>
    obtain ⟨k, y, m, rfl, hks, hk11, rfl, rfl, HY, HM⟩ := hrel
    have hyb : y < 100000000000 := by rw [HY.out]; exact digVal_11 _ k hk11
    have hmb : m ≤ 11 := by rw [HM.out]; have h4 := digCnt_le (s.data.toList.take k); rw [List.length_take] at h4; omega
    by_cases hgo : k < s.size ∧ k < 11
    · obtain ⟨hlt, hl11⟩ := hgo
      have hkl : (k : Int) < (s.size : Int) := by omega
      have hk11i : (k : Int) < 11 := by omega
      have H1 := Lib.hid (digVal_snoc (s.data.toList.take k) s[k])
      have H2 := Lib.hid (digCnt_snoc (s.data.toList.take k) s[k])
      have Ht := Lib.hid (take_snoc s k hlt)
      have hb8 := s[k].toNat_lt
      by_cases hb1 : 48 ≤ s[k].toNat
      · by_cases hb2 : s[k].toNat ≤ 57
        · have hd : isDig s[k] = true := by unfold isDig; simp [hb1, hb2]
          obtain ⟨d, hdd⟩ : ∃ d : Nat, d = s[k].toNat - 48 := ⟨_, rfl⟩
          have hw8 : IntKind.u8.wrap ((s[k].toNat : Int) - 48) = (d : Int) := by rw [IntKind.wrap_u8]; omega
          have hd9 : d ≤ 9 := by omega
          have HS := Lib.hid (show y * 10 + d = digVal (s.data.toList.take (k + 1)) by rw [Ht.out, H1.out, if_pos hd, hdd, HY.out])
          have HC := Lib.hid (show m + 1 = digCnt (s.data.toList.take (k + 1)) by rw [Ht.out, H2.out, if_pos hd, HM.out])
          have i1 : (48 : Int) ≤ (s[k].toNat : Int) := by omega
          have i2 : (s[k].toNat : Int) ≤ 57 := by omega
          clear hd hdd hb1 hb2
          go_wp2
          go_round
          case rel => exact ⟨k + 1, y * 10 + d, m + 1, by go_num, by omega, by omega, by go_num, by go_num, HS, HC⟩
          case measure => simp [intOf]; omega
        · have hd : isDig s[k] = false := by unfold isDig; simp [hb2]
          have HS := Lib.hid (show y = digVal (s.data.toList.take (k + 1)) by rw [Ht.out, H1.out, hd, HY.out]; rfl)
          have HC := Lib.hid (show m = digCnt (s.data.toList.take (k + 1)) by rw [Ht.out, H2.out, hd, HM.out]; rfl)
          have i1 : (48 : Int) ≤ (s[k].toNat : Int) := by omega
          have i2 : ¬ (s[k].toNat : Int) ≤ 57 := by omega
          clear hd hb1 hb2
          go_wp2
          go_round
          case rel => exact ⟨k + 1, y, m, by go_num, by omega, by omega, rfl, rfl, HS, HC⟩
          case measure => simp [intOf]; omega
      · have hd : isDig s[k] = false := by unfold isDig; simp [hb1]
        have HS := Lib.hid (show y = digVal (s.data.toList.take (k + 1)) by rw [Ht.out, H1.out, hd, HY.out]; rfl)
        have HC := Lib.hid (show m = digCnt (s.data.toList.take (k + 1)) by rw [Ht.out, H2.out, hd, HM.out]; rfl)
        have i1 : ¬ (48 : Int) ≤ (s[k].toNat : Int) := by omega
        clear hd hb1
        go_wp2
        go_round
        case rel => exact ⟨k + 1, y, m, by go_num, by omega, by omega, rfl, rfl, HS, HC⟩
        case measure => simp [intOf]; omega
    · have htk : s.data.toList.take k = s.data.toList.take 11 := by
        rcases Nat.lt_or_ge k s.size with h | h
        · have : k = 11 := by omega
          rw [this]
        · rw [List.take_of_length_le (by omega), List.take_of_length_le (by omega)]
      have HY2 := Lib.hid (show y = digVal (s.data.toList.take 11) by rw [HY.out, htk])
      have HM2 := Lib.hid (show m = digCnt (s.data.toList.take 11) by rw [HM.out, htk])
      clear htk
      have HR := Lib.hid (show readN s.data.toList = if s.data.toList.head? = some 45 then -(y : Int) else (y : Int) by unfold readN; rw [← HY2.out])
      by_cases hz : s.size = 0
      · have HN := Lib.hid (show readN s.data.toList = (y : Int) by rw [HR.out, if_neg (by rw [show s.data.toList = [] from List.eq_nil_of_length_eq_zero (by rw [hsz]; exact hz)]; simp)])
        have hk0 : ¬ (k : Int) < (s.size : Int) := by omega
        have hz0 : ¬ (0 : Int) < (s.size : Int) := by omega
        clear hgo
        by_cases hc9 : m ≤ 9
        · have hc9i : ¬ (9 : Int) < (m : Int) := by omega
          have hcd := read_bd s.data.toList (by rw [← HM2.out]; exact hc9)
          rw [HN.out] at hcd
          obtain ⟨hcd0, hcd1⟩ := hcd
          by_cases hl : s.size ≤ 10
          · have hli : ¬ (10 : Int) < (s.size : Int) := by omega
            have hI : I64 ((y : Int)) := ⟨by omega, by omega⟩
            by_cases heq : Lib.itoa ((y : Int)) = s.data.toList
            · have HD := Lib.hid (int_yes hcd0 hcd1 heq)
              have hse := str_eq heq
              clear heq
              go_wp2_with fail
              refine (specFormatInt_any ((y : Int)) _ hI).mono ?_
              rintro e w1 ⟨rfl, hb1⟩
              rw [numS_data, hse]
              go_wp2
              go_ret2
              exact ParEnd.mk _ true rfl HD.out (hb1)
            · have HD := Lib.hid (int_no (t := s.data.toList) (fun n h0 h1 h => by have h2 := (read_itoa h0 h1).1; rw [h, HN.out] at h2; exact heq (by rw [h2]; exact h)))
              have hse := str_ne heq
              clear heq
              go_wp2_with fail
              refine (specFormatInt_any ((y : Int)) _ hI).mono ?_
              rintro e w1 ⟨rfl, hb1⟩
              rw [numS_data]
              go_wp2
              go_ret2
              exact ParEnd.mk 0 false rfl HD.out (hb1)
          · omega
        · have hc9i : (9 : Int) < (m : Int) := by omega
          have HD := Lib.hid (int_no (t := s.data.toList) (fun n h0 h1 h => by have h2 := (read_itoa h0 h1).2; rw [h, ← HM2.out] at h2; omega))
          go_wp2
          go_ret2
          exact ParEnd.mk 0 false rfl HD.out (Below.refl _ _)
      · have hz0 : (0 : Int) < (s.size : Int) := by omega
        have hzn : 0 < s.size := by omega
        have hhd : s.data.toList.head? = some s[0] := by
          cases hl : s.data.toList with
          | nil => rw [hl] at hsz; simp at hsz; omega
          | cons a r =>
            have : s[0] = s.data.toList[0]'(by rw [hsz]; omega) := rfl
            rw [this]; simp [hl]
        by_cases h45 : s[0].toNat = 45
        · have HN := Lib.hid (show readN s.data.toList = -(y : Int) by rw [HR.out, if_pos (by rw [hhd]; exact congrArg some (UInt8.toNat_inj.1 h45))])
          have h45i : ((s[0].toNat : Int) == 45) = true := by rw [h45]; rfl
          have hneg : IntKind.i64.wrap (-(y : Int)) = -(y : Int) := IntWalk.i64_in _ (by omega)
          clear h45 hhd
          by_cases hks2 : (k : Int) < (s.size : Int)
          · have hk11i : ¬ (k : Int) < 11 := by omega
            clear hgo
            by_cases hc9 : m ≤ 9
            · have hc9i : ¬ (9 : Int) < (m : Int) := by omega
              have hcd := read_bd s.data.toList (by rw [← HM2.out]; exact hc9)
              rw [HN.out] at hcd
              obtain ⟨hcd0, hcd1⟩ := hcd
              by_cases hl : s.size ≤ 10
              · have hli : ¬ (10 : Int) < (s.size : Int) := by omega
                have hI : I64 (-(y : Int)) := ⟨by omega, by omega⟩
                by_cases heq : Lib.itoa (-(y : Int)) = s.data.toList
                · have HD := Lib.hid (int_yes hcd0 hcd1 heq)
                  have hse := str_eq heq
                  clear heq
                  go_wp2_with fail
                  refine (specFormatInt_any (-(y : Int)) _ hI).mono ?_
                  rintro e w1 ⟨rfl, hb1⟩
                  rw [numS_data, hse]
                  go_wp2
                  go_ret2
                  exact ParEnd.mk _ true rfl HD.out (hb1)
                · have HD := Lib.hid (int_no (t := s.data.toList) (fun n h0 h1 h => by have h2 := (read_itoa h0 h1).1; rw [h, HN.out] at h2; exact heq (by rw [h2]; exact h)))
                  have hse := str_ne heq
                  clear heq
                  go_wp2_with fail
                  refine (specFormatInt_any (-(y : Int)) _ hI).mono ?_
                  rintro e w1 ⟨rfl, hb1⟩
                  rw [numS_data]
                  go_wp2
                  go_ret2
                  exact ParEnd.mk 0 false rfl HD.out (hb1)
              · have hli : (10 : Int) < (s.size : Int) := by omega
                have HD := Lib.hid (int_no (t := s.data.toList) (fun n h0 h1 h => by have h2 := itoa_len10 n h0 h1; rw [h, hsz] at h2; omega))
                go_wp2
                go_ret2
                exact ParEnd.mk 0 false rfl HD.out (Below.refl _ _)
            · have hc9i : (9 : Int) < (m : Int) := by omega
              have HD := Lib.hid (int_no (t := s.data.toList) (fun n h0 h1 h => by have h2 := (read_itoa h0 h1).2; rw [h, ← HM2.out] at h2; omega))
              go_wp2
              go_ret2
              exact ParEnd.mk 0 false rfl HD.out (Below.refl _ _)
          · clear hgo
            by_cases hc9 : m ≤ 9
            · have hc9i : ¬ (9 : Int) < (m : Int) := by omega
              have hcd := read_bd s.data.toList (by rw [← HM2.out]; exact hc9)
              rw [HN.out] at hcd
              obtain ⟨hcd0, hcd1⟩ := hcd
              by_cases hl : s.size ≤ 10
              · have hli : ¬ (10 : Int) < (s.size : Int) := by omega
                have hI : I64 (-(y : Int)) := ⟨by omega, by omega⟩
                by_cases heq : Lib.itoa (-(y : Int)) = s.data.toList
                · have HD := Lib.hid (int_yes hcd0 hcd1 heq)
                  have hse := str_eq heq
                  clear heq
                  go_wp2_with fail
                  refine (specFormatInt_any (-(y : Int)) _ hI).mono ?_
                  rintro e w1 ⟨rfl, hb1⟩
                  rw [numS_data, hse]
                  go_wp2
                  go_ret2
                  exact ParEnd.mk _ true rfl HD.out (hb1)
                · have HD := Lib.hid (int_no (t := s.data.toList) (fun n h0 h1 h => by have h2 := (read_itoa h0 h1).1; rw [h, HN.out] at h2; exact heq (by rw [h2]; exact h)))
                  have hse := str_ne heq
                  clear heq
                  go_wp2_with fail
                  refine (specFormatInt_any (-(y : Int)) _ hI).mono ?_
                  rintro e w1 ⟨rfl, hb1⟩
                  rw [numS_data]
                  go_wp2
                  go_ret2
                  exact ParEnd.mk 0 false rfl HD.out (hb1)
              · have hli : (10 : Int) < (s.size : Int) := by omega
                have HD := Lib.hid (int_no (t := s.data.toList) (fun n h0 h1 h => by have h2 := itoa_len10 n h0 h1; rw [h, hsz] at h2; omega))
                go_wp2
                go_ret2
                exact ParEnd.mk 0 false rfl HD.out (Below.refl _ _)
            · have hc9i : (9 : Int) < (m : Int) := by omega
              have HD := Lib.hid (int_no (t := s.data.toList) (fun n h0 h1 h => by have h2 := (read_itoa h0 h1).2; rw [h, ← HM2.out] at h2; omega))
              go_wp2
              go_ret2
              exact ParEnd.mk 0 false rfl HD.out (Below.refl _ _)
        · have HN := Lib.hid (show readN s.data.toList = (y : Int) by rw [HR.out, if_neg (by rw [hhd]; intro e; exact h45 (by rw [Option.some.inj e]; rfl))])
          have h45i : ((s[0].toNat : Int) == 45) = false := by rw [beq_eq_false_iff_ne]; omega
          clear h45 hhd
          by_cases hks2 : (k : Int) < (s.size : Int)
          · have hk11i : ¬ (k : Int) < 11 := by omega
            clear hgo
            by_cases hc9 : m ≤ 9
            · have hc9i : ¬ (9 : Int) < (m : Int) := by omega
              have hcd := read_bd s.data.toList (by rw [← HM2.out]; exact hc9)
              rw [HN.out] at hcd
              obtain ⟨hcd0, hcd1⟩ := hcd
              by_cases hl : s.size ≤ 10
              · have hli : ¬ (10 : Int) < (s.size : Int) := by omega
                have hI : I64 ((y : Int)) := ⟨by omega, by omega⟩
                by_cases heq : Lib.itoa ((y : Int)) = s.data.toList
                · have HD := Lib.hid (int_yes hcd0 hcd1 heq)
                  have hse := str_eq heq
                  clear heq
                  go_wp2_with fail
                  refine (specFormatInt_any ((y : Int)) _ hI).mono ?_
                  rintro e w1 ⟨rfl, hb1⟩
                  rw [numS_data, hse]
                  go_wp2
                  go_ret2
                  exact ParEnd.mk _ true rfl HD.out (hb1)
                · have HD := Lib.hid (int_no (t := s.data.toList) (fun n h0 h1 h => by have h2 := (read_itoa h0 h1).1; rw [h, HN.out] at h2; exact heq (by rw [h2]; exact h)))
                  have hse := str_ne heq
                  clear heq
                  go_wp2_with fail
                  refine (specFormatInt_any ((y : Int)) _ hI).mono ?_
                  rintro e w1 ⟨rfl, hb1⟩
                  rw [numS_data]
                  go_wp2
                  go_ret2
                  exact ParEnd.mk 0 false rfl HD.out (hb1)
              · have hli : (10 : Int) < (s.size : Int) := by omega
                have HD := Lib.hid (int_no (t := s.data.toList) (fun n h0 h1 h => by have h2 := itoa_len10 n h0 h1; rw [h, hsz] at h2; omega))
                go_wp2
                go_ret2
                exact ParEnd.mk 0 false rfl HD.out (Below.refl _ _)
            · have hc9i : (9 : Int) < (m : Int) := by omega
              have HD := Lib.hid (int_no (t := s.data.toList) (fun n h0 h1 h => by have h2 := (read_itoa h0 h1).2; rw [h, ← HM2.out] at h2; omega))
              go_wp2
              go_ret2
              exact ParEnd.mk 0 false rfl HD.out (Below.refl _ _)
          · clear hgo
            by_cases hc9 : m ≤ 9
            · have hc9i : ¬ (9 : Int) < (m : Int) := by omega
              have hcd := read_bd s.data.toList (by rw [← HM2.out]; exact hc9)
              rw [HN.out] at hcd
              obtain ⟨hcd0, hcd1⟩ := hcd
              by_cases hl : s.size ≤ 10
              · have hli : ¬ (10 : Int) < (s.size : Int) := by omega
                have hI : I64 ((y : Int)) := ⟨by omega, by omega⟩
                by_cases heq : Lib.itoa ((y : Int)) = s.data.toList
                · have HD := Lib.hid (int_yes hcd0 hcd1 heq)
                  have hse := str_eq heq
                  clear heq
                  go_wp2_with fail
                  refine (specFormatInt_any ((y : Int)) _ hI).mono ?_
                  rintro e w1 ⟨rfl, hb1⟩
                  rw [numS_data, hse]
                  go_wp2
                  go_ret2
                  exact ParEnd.mk _ true rfl HD.out (hb1)
                · have HD := Lib.hid (int_no (t := s.data.toList) (fun n h0 h1 h => by have h2 := (read_itoa h0 h1).1; rw [h, HN.out] at h2; exact heq (by rw [h2]; exact h)))
                  have hse := str_ne heq
                  clear heq
                  go_wp2_with fail
                  refine (specFormatInt_any ((y : Int)) _ hI).mono ?_
                  rintro e w1 ⟨rfl, hb1⟩
                  rw [numS_data]
                  go_wp2
                  go_ret2
                  exact ParEnd.mk 0 false rfl HD.out (hb1)
              · have hli : (10 : Int) < (s.size : Int) := by omega
                have HD := Lib.hid (int_no (t := s.data.toList) (fun n h0 h1 h => by have h2 := itoa_len10 n h0 h1; rw [h, hsz] at h2; omega))
                go_wp2
                go_ret2
                exact ParEnd.mk 0 false rfl HD.out (Below.refl _ _)
            · have hc9i : (9 : Int) < (m : Int) := by omega
              have HD := Lib.hid (int_no (t := s.data.toList) (fun n h0 h1 h => by have h2 := (read_itoa h0 h1).2; rw [h, ← HM2.out] at h2; omega))
              go_wp2
              go_ret2
              exact ParEnd.mk 0 false rfl HD.out (Below.refl _ _)
theorem numEnd_cases (x : Lib.NumEnd Int) : (∃ v, x = .ok v) ∨ x = .range ∨ x = Lib.atoiAll [] := by
  cases x <;> first | exact .inl ⟨_, rfl⟩ | exact .inr (.inl rfl) | exact .inr (.inr rfl)
theorem atoi_nil_ne (v : Int) : Lib.atoiAll [] ≠ .ok v := by
  first | (intro h; cases h) | simp [Lib.atoiAll] | (intro h; exact absurd h (by decide))
theorem atoi_no {s : ByteArray} {x : Lib.NumEnd Int} (h : Lib.atoiAll s.data.toList = x) (hx : ∀ v, x ≠ .ok v) : IntIs s.data.toList 0 false :=
  int_no (fun n h0 h1 e => hx n (by rw [← h, ← e]; exact atoiAll_itoa n h0 h1))
set_option maxRecDepth 100000 in
set_option maxHeartbeats 3200000 in
theorem implParseInt_any (s : ByteArray) (w : World) (hs : s.size ≤ 1048576) (hE : ∃ tp p, w.cell? ⟨1, 0, none⟩ = some (.iface tp p)) (hR : ∃ tp p, w.cell? ⟨2, 0, none⟩ = some (.iface tp p))
    (hT : Lib.TabBelow Tryz.prog w.heap.size w "internal/strconv.uint64pow10" .u64 Lib.pow10Tab) :
    Calls Tryz.prog 97 #[.string s] w (ParEnd s w) := by
  have HT := Lib.hid hT
  clear hT
  rcases numEnd_cases (Lib.atoiAll s.data.toList) with ⟨n, ha⟩ | ha | ha
  · have Ha := Lib.hid ha
    have hq : Calls Tryz.prog 167 #[.string s] w fun e w' => e = .returned (.tuple #[.int .i64 n, .nilIface]) ∧ Below w.heap.size w w' := (Tryz.strconv_Atoi_ok s (by omega) n ha w).mono (by
      rintro e w1 ⟨rfl, rfl | ⟨t, rfl⟩⟩
      · exact ⟨rfl, Below.refl _ _⟩
      · exact ⟨rfl, Lib.bytesWorld_below _ _ _⟩)
    have hI : I64 n := Lib.atoiAll_bounds ha
    clear ha
    cases hin : inR n (-999999999) 999999999 with
    | false =>
      have HD := Lib.hid (int_no (t := s.data.toList) (fun m h0 h1 e => by
        have h2 := atoiAll_itoa m h0 h1
        rw [e, Ha.out] at h2
        injection h2 with h2
        subst h2
        unfold inR at hin
        simp at hin
        omega))
      have hw := fun x => retB (f107_any n (-999999999) 999999999 x) hin
      clear hin
      go_enter Tryz.func97, Tryz.ntmps97
      go_wp2_with fail
      refine hq.mono ?_
      rintro e w1 ⟨rfl, hb1⟩
      clear hq
      go_wp2_with (go_at_call 107; refine (hw _).mono ?_; rintro e w' ⟨rfl, rfl⟩)
      go_ret2
      exact ParEnd.mk 0 false rfl HD.out (hb1)
    | true =>
      have hbd := inR_true hin
      obtain ⟨hb0, hb9⟩ := hbd
      have hw := fun x => retB (f107_any n (-999999999) 999999999 x) hin
      clear hin
      by_cases heq : Lib.itoa n = s.data.toList
      · have HD := Lib.hid (int_yes hb0 hb9 heq)
        have hse := str_eq heq
        clear heq
        go_enter Tryz.func97, Tryz.ntmps97
        go_wp2_with fail
        refine hq.mono ?_
        rintro e w1 ⟨rfl, hb1⟩
        clear hq
        go_wp2_with (go_at_call 107; refine (hw _).mono ?_; rintro e w' ⟨rfl, rfl⟩)
        refine (implFormatInt_any n _ hI (Tab.on HT.out hb1 _ (Below.refl _ _))).mono ?_
        rintro e w2 ⟨rfl, hb2⟩
        rw [numS_data, hse]
        have hb3 := bt hb1 hb2
        go_wp2
        go_ret2
        exact ParEnd.mk n true rfl HD.out (hb3)
      · have HD := Lib.hid (int_no (t := s.data.toList) (fun m h0 h1 e => by
          have h2 := atoiAll_itoa m h0 h1
          rw [e, Ha.out] at h2
          injection h2 with h2
          subst h2
          exact heq e))
        have hse := str_ne heq
        clear heq
        go_enter Tryz.func97, Tryz.ntmps97
        go_wp2_with fail
        refine hq.mono ?_
        rintro e w1 ⟨rfl, hb1⟩
        clear hq
        go_wp2_with (go_at_call 107; refine (hw _).mono ?_; rintro e w' ⟨rfl, rfl⟩)
        refine (implFormatInt_any n _ hI (Tab.on HT.out hb1 _ (Below.refl _ _))).mono ?_
        rintro e w2 ⟨rfl, hb2⟩
        rw [numS_data]
        have hb3 := bt hb1 hb2
        go_wp2
        go_ret2
        exact ParEnd.mk 0 false rfl HD.out (hb3)
  · have HD := Lib.hid (atoi_no ha (by intro v h; cases h))
    obtain ⟨tp, p, hv⟩ := hR
    have hq := Tryz.strconv_Atoi_range s (by omega) ha (.iface tp p) w hv (.inr ⟨_, _, rfl⟩)
    clear ha
    go_enter Tryz.func97, Tryz.ntmps97
    go_wp2_with fail
    refine hq.mono ?_
    rintro e w1 ⟨N, rfl, h1, h2, hb1⟩
    clear h1 h2 hq
    go_wp2
    go_ret2
    exact ParEnd.mk 0 false rfl HD.out (hb1)
  · have HD := Lib.hid (atoi_no ha atoi_nil_ne)
    obtain ⟨tp, p, hv⟩ := hE
    have hq := Tryz.strconv_Atoi_syntax s (by omega) ha (.iface tp p) w hv (.inr ⟨_, _, rfl⟩)
    clear ha
    go_enter Tryz.func97, Tryz.ntmps97
    go_wp2_with fail
    refine hq.mono ?_
    rintro e w1 ⟨N, rfl, h1, h2, hb1⟩
    clear h1 h2 hq
    go_wp2
    go_ret2
    exact ParEnd.mk 0 false rfl HD.out (hb1)
end Go.Proofs.YtpdmdfkcaabnaaaGreatDoor
