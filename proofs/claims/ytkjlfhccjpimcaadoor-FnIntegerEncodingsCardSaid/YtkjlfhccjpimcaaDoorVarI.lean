/- DecodeVarint of the program: it returns what 'DecIs' says. Condition: the text is no longer than 2^20. -/
import Derived.Test.YtkjlfhccjpimcaaDoorVarD
namespace Go.Proofs.YtkjlfhccjpimcaaDoor
open Go.RowKit
set_option linter.unusedVariables false
set_option linter.unusedSimpArgs false
theorem and127_all : ∀ a : Fin 256, bits .and .u8 (a.val : Int) 127 = ((a.val % 128 : Nat) : Int) := by decide +kernel
theorem or_step (y k b : Nat) (hk : k < 7) (hy : y < 128 ^ k) (hb : b < 256) :
    bits .or .i64 (y : Int) (wrap64 (wrap64 (bits .and .u8 (b : Int) 127) * 2 ^ (7 * k))) = ((y + 128 ^ k * (b % 128) : Nat) : Int) := by
  have ha : bits .and .u8 (b : Int) 127 = ((b % 128 : Nat) : Int) := and127_all ⟨b, hb⟩
  have hp : 128 ^ k ≤ 128 ^ 6 := Nat.pow_le_pow_right (by omega) (by omega)
  have h6 : (128 : Nat) ^ 6 = 4398046511104 := by decide
  have hw : ∀ x : Nat, x < 9223372036854775808 → wrap64 (x : Int) = (x : Int) := fun x hx => by
    first
      | exact IntWalk.i64_in _ (by omega)
      | (unfold wrap64; omega)
  have h2 : (2 : Int) ^ (7 * k) = ((128 ^ k : Nat) : Int) := by rw [Int.natCast_pow, Int.pow_mul, show (2 : Int) ^ 7 = ((128 : Nat) : Int) from by decide]
  have hm : (b % 128) * 128 ^ k < 562949953421312 := by
    have := Nat.mul_le_mul (show b % 128 ≤ 127 by omega) (Nat.le_trans hp (Nat.le_of_eq h6))
    omega
  rw [ha, hw _ (by omega), h2, ← Int.natCast_mul, hw _ (by omega), i64_or_nat _ _ (by omega) (by omega)]
  have e : 128 ^ k = 2 ^ (7 * k) := by rw [Nat.pow_mul]
  have := Nat.two_pow_add_eq_or_of_lt (i := 7 * k) (b := y) (by rw [← e]; exact hy) (b % 128)
  rw [← e] at this
  rw [Nat.or_comm, Nat.mul_comm (b % 128), ← this, Nat.add_comm]
set_option maxRecDepth 100000 in
set_option maxHeartbeats 1600000 in
theorem implDecodeVarint_any (s : ByteArray) (w : World) (hs : s.size ≤ 1048576) :
    Calls Tryd.prog 13 #[.string s] w fun e w' => ∃ v n : Int, e = .returned (.tuple #[.int .i64 v, .int .i64 n]) ∧ DecIs s.data.toList v n ∧ Below w.heap.size w w' := by
  have hsz : s.data.toList.length = s.size := by simp
  by_cases h7 : s.size < 7
  · have h7i : (s.size : Int) < 7 := by omega
    have h7j : (s.size : Int) ≤ 7 := by omega
    go_enter Tryd.func13, Tryd.ntmps13
    go_wp2
    go_loopw [4, 9] (fun x i wr => ∃ k y : Nat, i = .int .i64 k ∧ k ≤ s.size ∧ x = .int .i64 y ∧ Hid (y = leV (s.data.toList.take k)) ∧ Hid (∀ j (h : j < s.data.toList.length), j < k → 128 ≤ s.data.toList[j].toNat) ∧ Below w.heap.size w wr) (fun _ i _ => s.size - (intOf i).toNat)
    case atStart => exact ⟨0, 0, rfl, Nat.zero_le _, rfl, Lib.hid (by simp [leV]), Lib.hid (fun j _ h => by omega), Below.refl _ _⟩
    case round =>
      obtain ⟨k, y, rfl, hk, rfl, HY, HB, hbel⟩ := hrel
      by_cases hlt : k < s.size
      · have hks : k < s.size := by omega
        have hkz : (k : Int) < (s.size : Int) := by omega
        have hyl : y < 128 ^ k := by rw [HY.out]; have := leV_lt (s.data.toList.take k); rwa [List.length_take, Nat.min_eq_left (by omega)] at this
        have HO := Lib.hid (or_step y k s[k].toNat (by omega) hyl s[k].toNat_lt)
        have HS := Lib.hid (show (y + 128 ^ k * (s[k].toNat % 128) : Nat) = leV (s.data.toList.take (k + 1)) by rw [HY.out]; exact (leV_take (by rw [hsz]; exact hks)).symm)
        clear hyl
        obtain ⟨y2, hy2⟩ : ∃ y2, y2 = y + 128 ^ k * (s[k].toNat % 128) := ⟨_, rfl⟩
        rw [← hy2] at HO HS
        clear hy2
        by_cases hb : s[k].toNat < 128
        · have hbi : (s[k].toNat : Int) < 128 := by omega
          by_cases hk0 : k = 0
          · have HD := Lib.hid (show DecIs s.data.toList (y2 : Int) ((k : Int) + 1) from .inl ⟨k, by omega, ⟨by rw [hsz]; exact hks, fun j hj => by omega, hb, fun h => by omega⟩, by rw [HS.out], rfl⟩)
            have hkn : ¬ (0 : Int) < (k : Int) := by omega
            have hknn : ¬ 0 < k := by omega
            clear hk0 hb
            go_wp2
            go_ret2
            exact ⟨(y2 : Int), (k : Int) + 1, by simp [HO.out], HD.out, hbel⟩
          · have hkn : (0 : Int) < (k : Int) := by omega
            have hknn : 0 < k := by omega
            clear hk0
            by_cases hz : s[k].toNat = 0
            · have HD := Lib.hid (show DecIs s.data.toList 0 0 from .inr ⟨fun m hm hc => by
                rcases Nat.lt_trichotomy m k with h | h | h
                · obtain ⟨h1, _, h3, _⟩ := hc
                  have := HB.out m h1 h
                  omega
                · subst h
                  obtain ⟨_, _, _, h4⟩ := hc
                  have h5 : 0 < s[m].toNat := h4 hknn
                  omega
                · obtain ⟨h1, h2, _, _⟩ := hc
                  have h5 : 128 ≤ s[k].toNat := h2 k h
                  omega, rfl, rfl⟩)
              have hzi : ((s[k].toNat : Int) == 0) = true := by rw [hz]; rfl
              clear hb hz
              go_wp2
              go_ret2
              exact ⟨0, 0, by simp, HD.out, hbel⟩
            · have HD := Lib.hid (show DecIs s.data.toList (y2 : Int) ((k : Int) + 1) from .inl ⟨k, by omega, ⟨by rw [hsz]; exact hks, fun j hj => HB.out j (by omega) hj, hb, fun _ => Nat.pos_of_ne_zero hz⟩, by rw [HS.out], rfl⟩)
              have hzi : ((s[k].toNat : Int) == 0) = false := by rw [beq_eq_false_iff_ne]; omega
              clear hb hz
              go_wp2
              go_ret2
              exact ⟨(y2 : Int), (k : Int) + 1, by simp [HO.out], HD.out, hbel⟩
        · have hbi : ¬ (s[k].toNat : Int) < 128 := by omega
          have hbj : (128 : Int) ≤ (s[k].toNat : Int) := by omega
          have HB2 := Lib.hid (show ∀ j (h : j < s.data.toList.length), j < k + 1 → 128 ≤ s.data.toList[j].toNat from fun j h h1 => by
            rcases Nat.lt_or_ge j k with h2 | h2
            · exact HB.out j h h2
            · obtain rfl : j = k := by omega
              exact Nat.le_of_not_lt hb)
          clear hb
          go_wp2
          go_roundw
          case rel => exact ⟨k + 1, y2, by go_num, by omega, by rw [HO.out], HS, HB2, hbel⟩
          case measure => simp [intOf]; omega
      · have HD := Lib.hid (show DecIs s.data.toList 0 0 from .inr ⟨fun m hm hc => by
          obtain ⟨h1, _, h3, _⟩ := hc
          have := HB.out m h1 (by omega)
          omega, rfl, rfl⟩)
        have hkz : ¬ (k : Int) < (s.size : Int) := by omega
        go_wp2
        go_ret2
        exact ⟨0, 0, by simp, HD.out, hbel⟩
  · have h7i : ¬ (s.size : Int) < 7 := by omega
    have h7j : (7 : Int) ≤ (s.size : Int) := by omega
    go_enter Tryd.func13, Tryd.ntmps13
    go_wp2
    go_loopw [4, 9] (fun x i wr => ∃ k y : Nat, i = .int .i64 k ∧ k ≤ 7 ∧ x = .int .i64 y ∧ Hid (y = leV (s.data.toList.take k)) ∧ Hid (∀ j (h : j < s.data.toList.length), j < k → 128 ≤ s.data.toList[j].toNat) ∧ Below w.heap.size w wr) (fun _ i _ => 7 - (intOf i).toNat)
    case atStart => exact ⟨0, 0, rfl, Nat.zero_le _, rfl, Lib.hid (by simp [leV]), Lib.hid (fun j _ h => by omega), Below.refl _ _⟩
    case round =>
      obtain ⟨k, y, rfl, hk, rfl, HY, HB, hbel⟩ := hrel
      by_cases hlt : k < 7
      · have hks : k < s.size := by omega
        have hkz : (k : Int) < 7 := by omega
        have hyl : y < 128 ^ k := by rw [HY.out]; have := leV_lt (s.data.toList.take k); rwa [List.length_take, Nat.min_eq_left (by omega)] at this
        have HO := Lib.hid (or_step y k s[k].toNat (by omega) hyl s[k].toNat_lt)
        have HS := Lib.hid (show (y + 128 ^ k * (s[k].toNat % 128) : Nat) = leV (s.data.toList.take (k + 1)) by rw [HY.out]; exact (leV_take (by rw [hsz]; exact hks)).symm)
        clear hyl
        obtain ⟨y2, hy2⟩ : ∃ y2, y2 = y + 128 ^ k * (s[k].toNat % 128) := ⟨_, rfl⟩
        rw [← hy2] at HO HS
        clear hy2
        by_cases hb : s[k].toNat < 128
        · have hbi : (s[k].toNat : Int) < 128 := by omega
          by_cases hk0 : k = 0
          · have HD := Lib.hid (show DecIs s.data.toList (y2 : Int) ((k : Int) + 1) from .inl ⟨k, by omega, ⟨by rw [hsz]; exact hks, fun j hj => by omega, hb, fun h => by omega⟩, by rw [HS.out], rfl⟩)
            have hkn : ¬ (0 : Int) < (k : Int) := by omega
            have hknn : ¬ 0 < k := by omega
            clear hk0 hb
            go_wp2
            go_ret2
            exact ⟨(y2 : Int), (k : Int) + 1, by simp [HO.out], HD.out, hbel⟩
          · have hkn : (0 : Int) < (k : Int) := by omega
            have hknn : 0 < k := by omega
            clear hk0
            by_cases hz : s[k].toNat = 0
            · have HD := Lib.hid (show DecIs s.data.toList 0 0 from .inr ⟨fun m hm hc => by
                rcases Nat.lt_trichotomy m k with h | h | h
                · obtain ⟨h1, _, h3, _⟩ := hc
                  have := HB.out m h1 h
                  omega
                · subst h
                  obtain ⟨_, _, _, h4⟩ := hc
                  have h5 : 0 < s[m].toNat := h4 hknn
                  omega
                · obtain ⟨h1, h2, _, _⟩ := hc
                  have h5 : 128 ≤ s[k].toNat := h2 k h
                  omega, rfl, rfl⟩)
              have hzi : ((s[k].toNat : Int) == 0) = true := by rw [hz]; rfl
              clear hb hz
              go_wp2
              go_ret2
              exact ⟨0, 0, by simp, HD.out, hbel⟩
            · have HD := Lib.hid (show DecIs s.data.toList (y2 : Int) ((k : Int) + 1) from .inl ⟨k, by omega, ⟨by rw [hsz]; exact hks, fun j hj => HB.out j (by omega) hj, hb, fun _ => Nat.pos_of_ne_zero hz⟩, by rw [HS.out], rfl⟩)
              have hzi : ((s[k].toNat : Int) == 0) = false := by rw [beq_eq_false_iff_ne]; omega
              clear hb hz
              go_wp2
              go_ret2
              exact ⟨(y2 : Int), (k : Int) + 1, by simp [HO.out], HD.out, hbel⟩
        · have hbi : ¬ (s[k].toNat : Int) < 128 := by omega
          have hbj : (128 : Int) ≤ (s[k].toNat : Int) := by omega
          have HB2 := Lib.hid (show ∀ j (h : j < s.data.toList.length), j < k + 1 → 128 ≤ s.data.toList[j].toNat from fun j h h1 => by
            rcases Nat.lt_or_ge j k with h2 | h2
            · exact HB.out j h h2
            · obtain rfl : j = k := by omega
              exact Nat.le_of_not_lt hb)
          clear hb
          go_wp2
          go_roundw
          case rel => exact ⟨k + 1, y2, by go_num, by omega, by rw [HO.out], HS, HB2, hbel⟩
          case measure => simp [intOf]; omega
      · have HD := Lib.hid (show DecIs s.data.toList 0 0 from .inr ⟨fun m hm hc => by
          obtain ⟨h1, _, h3, _⟩ := hc
          have := HB.out m h1 (by omega)
          omega, rfl, rfl⟩)
        have hkz : ¬ (k : Int) < 7 := by omega
        go_wp2
        go_ret2
        exact ⟨0, 0, by simp, HD.out, hbel⟩
end Go.Proofs.YtkjlfhccjpimcaaDoor
