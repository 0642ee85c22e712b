/- EncodeFixed, of the program and of the reference: both return the bytes 'encFixed'. No condition. -/
import Derived.Test.YtkjlfhccjpimcaaDoorBytes
namespace Go.Proofs.YtkjlfhccjpimcaaDoor
open Go.RowKit
set_option linter.unusedVariables false
set_option linter.unusedSimpArgs false

/-- The lowest i bytes of a number, the highest first. -/
def lowB : Nat → Nat → List UInt8
  | 0, _ => []
  | i + 1, n => UInt8.ofNat (n / 256 ^ i % 256) :: lowB i n
theorem lowB_length (i n : Nat) : (lowB i n).length = i := by
  induction i with
  | zero => rfl
  | succ i ih => simp [lowB, ih]
def fixFits (n width : Int) : Bool := inR width 1 7 && (decide (0 ≤ n) && decide (n.toNat / 256 ^ width.toNat = 0))
def encFixed (n width : Int) : ByteArray := if fixFits n width then ⟨(lowB width.toNat n.toNat).toArray⟩ else ⟨#[]⟩

theorem q_div {q m k : Nat} (h : q = m / 256 ^ k) : q / 256 = m / 256 ^ (k + 1) := by rw [h, Nat.div_div_eq_div_mul, Nat.pow_succ]
theorem encFixed_yes (m k : Nat) (h : inR (k : Int) 1 7 = true) (h0 : m / 256 ^ k = 0) : encFixed m k = ⟨(lowB k m).toArray⟩ := by
  simp [encFixed, fixFits, h, h0]
theorem encFixed_no (m k : Nat) (h0 : m / 256 ^ k ≠ 0) : encFixed m k = ⟨#[]⟩ := by
  simp [encFixed, fixFits, h0]
theorem encFixed_neg (n width : Int) (h : ¬ 0 ≤ n) : encFixed n width = ⟨#[]⟩ := by simp [encFixed, fixFits, h]
theorem encFixed_out (n width : Int) (h : ¬ inR width 1 7 = true) : encFixed n width = ⟨#[]⟩ := by simp [encFixed, fixFits, h]
theorem pow_int (d : Nat) : ((2 : Int) ^ (8 * d)) = ((256 ^ d : Nat) : Int) := by
  rw [Int.natCast_pow, Int.pow_mul]; rfl
theorem shr_test (m d : Nat) (b : Bool) (h : decide (m / 256 ^ d = 0) = b) : ((m : Int) / 2 ^ (8 * d) != 0) = !b := by
  rw [pow_int, ← Int.natCast_ediv]
  subst h
  by_cases h0 : m / 256 ^ d = 0
  · simp [h0]
  · have : ((m / 256 ^ d : Nat) : Int) ≠ 0 := by omega
    simp only [h0, decide_false, Bool.not_false, bne_iff_ne]; exact this
def fixCells (j k m : Nat) : Array Value := (List.replicate j (Value.int .u8 0) ++ bcells (lowB k m)).toArray
theorem fixCells_zero (d m : Nat) : madeCells (Value.cells (Value.int .u8 0)) (d * 1) = fixCells d 0 m := by
  apply Array.toList_inj.1
  show (madeCells #[.int .u8 0] (d * 1)).toList = _
  rw [toList_madeCells_one]
  simp [fixCells, lowB, bcells]
theorem fixCells_at (j k m : Nat) : (fixCells (j + 1) k m)[j]? = some (.int .u8 0) := by
  simp only [fixCells, List.getElem?_toArray]
  rw [List.getElem?_append_left (by simp)]
  simp
theorem set_at_end (j : Nat) (z u : Value) (l : List Value) : (List.replicate (j + 1) z ++ l).set j u = List.replicate j z ++ u :: l := by
  induction j with
  | zero => simp
  | succ j ih => rw [List.replicate_succ, List.cons_append, List.set_cons_succ, ih]; simp [List.replicate_succ]
theorem fixCells_set (j k m q : Nat) (h : q = m / 256 ^ k) : (fixCells (j + 1) k m).setIfInBounds j (.int .u8 ((q : Int) % 256)) = fixCells j (k + 1) m := by
  apply Array.toList_inj.1
  simp only [fixCells, Array.toList_setIfInBounds]
  rw [set_at_end]
  have hx : ((q : Int) % 256) = ((UInt8.ofNat (q % 256)).toNat : Int) := by rw [toNat_ofNat_lt _ (by omega)]; omega
  rw [hx, h]
  simp [lowB, bcells]
theorem fixCells_own {wr : World} {g B k m : Nat} (hblk : Blk wr g 5 (fixCells 0 k m)) (hk : k ≤ maxLen) (hB : B ≤ g := by exact Nat.le_refl _) : wr.ownsRow B 5 1 (.slice (some ⟨g, 0, none⟩) k k) k (bcells (lowB k m)) := by
  refine ⟨by rw [bcells_length, lowB_length]; omega, .inr ⟨g, k, _, rfl, hB, hblk, Nat.le_refl _, hk, ?_, ?_⟩⟩
  · simp [fixCells, bcells_length, lowB_length]
  · simp only [fixCells, List.replicate_zero, List.nil_append]
    rw [List.take_of_length_le (by simp [bcells_length, lowB_length])]
theorem conv_one (x : Int) (h0 : 0 ≤ x) (h1 : x < 256) (wx : World) : (convert 25 9 (.slice (some ⟨wx.heap.size, 0, none⟩) 1 1)).run Tryd.prog (wx.alloc (.cells #[.int .u8 x] 5)) =
    .ok (.string ⟨#[UInt8.ofNat x.toNat]⟩) (wx.alloc (.cells #[.int .u8 x] 5)) := by
  have hx : x = ((UInt8.ofNat x.toNat).toNat : Int) := by rw [toNat_ofNat_lt _ (by omega)]; omega
  have := run_convert_bytes_back (P := Tryd.prog) (wx.alloc (.cells #[.int .u8 x] 5)) 25 9 5 ⟨wx.heap.size, 0, none⟩ 1 [UInt8.ofNat x.toNat] Tryd.underlying25 Tryd.underlying5 Tryd.underlying9 (fun j hj => by
    have hj0 : j = 0 := by simpa using hj
    subst hj0
    show (wx.alloc (.cells #[.int .u8 x] 5)).cell? ⟨wx.heap.size, 0, none⟩ = _
    rw [World.cell?_alloc_at (hn := rfl)]
    simp only [List.getElem_cons_zero]
    rw [← hx]; rfl)
  simpa using this

set_option maxHeartbeats 400000 in
set_option maxRecDepth 100000 in
theorem f17_any (n width : Int) (w : World) (hn63 : n ≤ 9223372036854775807) :
    Calls Tryd.prog 17 #[.int .i64 n, .int .i64 width] w fun e w' => e = .returned (.string (encFixed n width)) ∧ Below w.heap.size w w' := by
  by_cases h1 : inR width 1 7 = true
  · by_cases h2 : 0 ≤ n
    · have hb := inR_true h1
      obtain ⟨m, rfl⟩ := Int.eq_ofNat_of_zero_le h2
      obtain ⟨d, rfl⟩ := Int.eq_ofNat_of_zero_le (a := width) (by omega)
      go_enter Tryd.func17, Tryd.ntmps17
      go_wp2_with (go_at_call 41; refine (f41_any _ _ _ _).mono ?_; rintro e w' ⟨rfl, rfl⟩)
      go_loopw [0, 5, 6] (fun x t i wr => ∃ k q : Nat, i = .int .i64 k ∧ k ≤ d ∧ x = .int .i64 q ∧ q ≤ m ∧ Hid (q = m / 256 ^ k) ∧ t = .string ⟨(lowB k m).toArray⟩ ∧ Below w.heap.size w wr) (fun _ _ i _ => d - (intOf i).toNat)
      case atStart => exact ⟨0, m, rfl, by omega, rfl, Nat.le_refl _, Lib.hid (by simp), rfl, Below.refl _ _⟩
      case round =>
        obtain ⟨k, q, rfl, hk, rfl, hq, HQ, rfl, hbel⟩ := hrel
        by_cases hlt : k < d
        · have hcv := conv_one ((q : Int) % 256) (by omega) (by omega)
          have hL : (lowB k m).length ≤ 7 := by rw [lowB_length]; omega
          go_wp2
          go_roundw
          case rel =>
            have hd := q_div HQ.out
            have h8 : q / 256 ≤ m := by omega
            exact ⟨k + 1, q / 256, by go_num, by omega, by go_num, h8, Lib.hid hd, by rw [HQ.out, lowB]; rfl, hbel.alloc hbel.size _⟩
          case measure => simp [intOf]; omega
        · have hkd : k = d := by omega
          subst hkd
          by_cases hq0 : q = 0
          · have Hf := Lib.hid (encFixed_yes m k (by rw [inR]; simp; omega) (by rw [← HQ.out]; exact hq0))
            subst hq0
            go_wp2
            go_ret
            exact ⟨ret_str (by rw [Hf.out]), hbel⟩
          · have Hf := Lib.hid (encFixed_no m k (by rw [← HQ.out]; exact hq0))
            have hq1 : 0 < q := by omega
            go_wp2
            go_ret
            exact ⟨ret_str (by rw [Hf.out]), hbel⟩
    · have Hf := Lib.hid (encFixed_neg n width h2)
      go_enter Tryd.func17, Tryd.ntmps17
      go_wp2_with (go_at_call 41; refine (f41_any _ _ _ _).mono ?_; rintro e w' ⟨rfl, rfl⟩)
      go_ret
      exact ⟨ret_str (by rw [Hf.out]), Below.refl _ _⟩
  · have Hf := Lib.hid (encFixed_out n width h1)
    go_enter Tryd.func17, Tryd.ntmps17
    go_wp2_with (go_at_call 41; refine (f41_any _ _ _ _).mono ?_; rintro e w' ⟨rfl, rfl⟩)
    go_ret
    exact ⟨ret_str (by rw [Hf.out]), Below.refl _ _⟩
set_option maxHeartbeats 400000 in
set_option maxRecDepth 100000 in
theorem f15_any (n width : Int) (w : World) (hn63 : n ≤ 9223372036854775807) :
    Calls Tryd.prog 15 #[.int .i64 n, .int .i64 width] w fun e w' => e = .returned (.string (encFixed n width)) ∧ Below w.heap.size w w' := by
  by_cases h1 : inR width 1 7 = true
  · by_cases h2 : 0 ≤ n
    · have hb := inR_true h1
      obtain ⟨m, rfl⟩ := Int.eq_ofNat_of_zero_le h2
      obtain ⟨d, rfl⟩ := Int.eq_ofNat_of_zero_le (a := width) (by omega)
      by_cases hz : m / 256 ^ d = 0
      · have ht := shr_test m d true (by simp [hz])
        have Hf := Lib.hid (encFixed_yes m d h1 hz)
        have hmk := make_row slByte d (by omega) (by omega)
        have Hc := Lib.hid (fixCells_zero d m)
        clear hz
        go_enter Tryd.func15, Tryd.ntmps15
        go_wp2_with (go_at_call 36; refine (f36_any _ _ _ _).mono ?_; rintro e w' ⟨rfl, rfl⟩)
        go_loopw [0, 6] (fun x i wr => ∃ k j q : Nat, i = .int .i64 ((j : Int) - 1) ∧ j ≤ d ∧ Hid (k + j = d) ∧ x = .int .i64 q ∧ q ≤ m ∧ Hid (q = m / 256 ^ k) ∧ Blk wr w.heap.size 5 (fixCells j k m) ∧ Below w.heap.size w wr) (fun _ i _ => (intOf i + 1).toNat)
        case atStart =>
          refine ⟨0, d, m, rfl, Nat.le_refl _, Lib.hid (by omega), rfl, Nat.le_refl _, Lib.hid (by simp), ?_, (Below.refl _ _).alloc (Nat.le_refl _) _⟩
          have h0 := Hc.out
          rw [Nat.mul_one] at h0
          rw [← h0]
          exact Blk.new _ _ _
        case round =>
          obtain ⟨k, j, q, rfl, hj, HK, rfl, hq, HQ, hblk, hbel⟩ := hrel
          cases j with
          | zero =>
            have hk : k = d := by have := HK.out; omega
            subst hk
            have hown : wr.ownsRow w.heap.size 5 1 (.slice (some ⟨w.heap.size, 0, none⟩) k k) k (bcells (lowB k m)) :=
              fixCells_own hblk (by unfold maxLen; omega)
            have hcv := own_string hown
            clear hown
            go_wp2
            go_ret
            exact ⟨ret_str (by rw [Hf.out]), hbel⟩
          | succ j =>
            rw [show (((j + 1 : Nat) : Int) - 1) = (j : Int) from by omega]
            have hcell := hblk.cell j
            have hfr := hblk.frozen j
            rw [fixCells_at j k m] at hcell
            go_wp2
            go_roundw
            case rel =>
              have hd := q_div HQ.out
              have hs := hblk.set j (.int .u8 ((q : Int) % 256))
              rw [fixCells_set j k m q HQ.out] at hs
              exact ⟨k + 1, j, q / 256, rfl, by omega, Lib.hid (by have := HK.out; omega), by go_num, by omega, Lib.hid hd, hs, hbel.setCell (Nat.le_refl _) _⟩
            case measure => simp [intOf]
      · have ht := shr_test m d false (by simp [hz])
        have Hf := Lib.hid (encFixed_no m d hz)
        clear hz
        go_enter Tryd.func15, Tryd.ntmps15
        go_wp2_with (go_at_call 36; refine (f36_any _ _ _ _).mono ?_; rintro e w' ⟨rfl, rfl⟩)
        go_ret
        exact ⟨ret_str (by rw [Hf.out]), Below.refl _ _⟩
    · have Hf := Lib.hid (encFixed_neg n width h2)
      go_enter Tryd.func15, Tryd.ntmps15
      go_wp2_with (go_at_call 36; refine (f36_any _ _ _ _).mono ?_; rintro e w' ⟨rfl, rfl⟩)
      go_ret
      exact ⟨ret_str (by rw [Hf.out]), Below.refl _ _⟩
  · have Hf := Lib.hid (encFixed_out n width h1)
    go_enter Tryd.func15, Tryd.ntmps15
    go_wp2_with (go_at_call 36; refine (f36_any _ _ _ _).mono ?_; rintro e w' ⟨rfl, rfl⟩)
    go_ret
    exact ⟨ret_str (by rw [Hf.out]), Below.refl _ _⟩
end Go.Proofs.YtkjlfhccjpimcaaDoor
