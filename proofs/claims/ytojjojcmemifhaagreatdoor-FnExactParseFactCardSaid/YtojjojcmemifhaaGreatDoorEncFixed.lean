/- EncodeFixed, of the program and of the reference: both return the bytes 'encFixed'. No condition. -/
import Derived.Test.YtojjojcmemifhaaGreatDoorBytes
namespace Go.Proofs.YtojjojcmemifhaaGreatDoor
open Go.RowKit
set_option linter.unusedVariables false
set_option linter.unusedSimpArgs false

/-- The lowest i bytes of a number, the highest first. -/
def lowB : Nat → Nat → List UInt8
  | 0, _ => []
  | i + 1, n => UInt8.ofNat (n / 256 ^ i % 256) :: lowB i n
theorem lowB_length (i n : Nat) : (lowB i n).length = i := by
  induction i with
  | zero => rfl
  | succ i ih => simp [lowB, ih]
def fixFits (n width : Int) : Bool := inR width 1 7 && (decide (0 ≤ n) && decide (n.toNat / 256 ^ width.toNat = 0))
def encFixed (n width : Int) : ByteArray := if fixFits n width then ⟨(lowB width.toNat n.toNat).toArray⟩ else ⟨#[]⟩

theorem q_div {q m k : Nat} (h : q = m / 256 ^ k) : q / 256 = m / 256 ^ (k + 1) := by rw [h, Nat.div_div_eq_div_mul, Nat.pow_succ]
theorem encFixed_yes (m k : Nat) (h : inR (k : Int) 1 7 = true) (h0 : m / 256 ^ k = 0) : encFixed m k = ⟨(lowB k m).toArray⟩ := by
  simp [encFixed, fixFits, h, h0]
theorem encFixed_no (m k : Nat) (h0 : m / 256 ^ k ≠ 0) : encFixed m k = ⟨#[]⟩ := by
  simp [encFixed, fixFits, h0]
theorem encFixed_neg (n width : Int) (h : ¬ 0 ≤ n) : encFixed n width = ⟨#[]⟩ := by simp [encFixed, fixFits, h]
theorem encFixed_out (n width : Int) (h : ¬ inR width 1 7 = true) : encFixed n width = ⟨#[]⟩ := by simp [encFixed, fixFits, h]
theorem pow_int (d : Nat) : ((2 : Int) ^ (8 * d)) = ((256 ^ d : Nat) : Int) := by
  rw [Int.natCast_pow, Int.pow_mul]; rfl
theorem shr_test (m d : Nat) (b : Bool) (h : decide (m / 256 ^ d = 0) = b) : ((m : Int) / 2 ^ (8 * d) != 0) = !b := by
  rw [pow_int, ← Int.natCast_ediv]
  subst h
  by_cases h0 : m / 256 ^ d = 0
  · simp [h0]
  · have : ((m / 256 ^ d : Nat) : Int) ≠ 0 := by omega
    simp only [h0, decide_false, Bool.not_false, bne_iff_ne]; exact this
def fixCells (j k m : Nat) : Array Value := (List.replicate j (Value.int .u8 0) ++ bcells (lowB k m)).toArray
theorem fixCells_zero (d m : Nat) : madeCells (Value.cells (Value.int .u8 0)) (d * 1) = fixCells d 0 m := by
  apply Array.toList_inj.1
  show (madeCells #[.int .u8 0] (d * 1)).toList = _
  rw [toList_madeCells_one]
  simp [fixCells, lowB, bcells]
theorem fixCells_at (j k m : Nat) : (fixCells (j + 1) k m)[j]? = some (.int .u8 0) := by
  simp only [fixCells, List.getElem?_toArray]
  rw [List.getElem?_append_left (by simp)]
  simp
theorem set_at_end (j : Nat) (z u : Value) (l : List Value) : (List.replicate (j + 1) z ++ l).set j u = List.replicate j z ++ u :: l := by
  induction j with
  | zero => simp
  | succ j ih => rw [List.replicate_succ, List.cons_append, List.set_cons_succ, ih]; simp [List.replicate_succ]
theorem fixCells_set (j k m q : Nat) (h : q = m / 256 ^ k) : (fixCells (j + 1) k m).setIfInBounds j (.int .u8 ((q : Int) % 256)) = fixCells j (k + 1) m := by
  apply Array.toList_inj.1
  simp only [fixCells, Array.toList_setIfInBounds]
  rw [set_at_end]
  have hx : ((q : Int) % 256) = ((UInt8.ofNat (q % 256)).toNat : Int) := by rw [toNat_ofNat_lt _ (by omega)]; omega
  rw [hx, h]
  simp [lowB, bcells]
theorem fixCells_own {wr : World} {g B k m : Nat} (hblk : Blk wr g 5 (fixCells 0 k m)) (hk : k ≤ maxLen) (hB : B ≤ g := by exact Nat.le_refl _) : wr.ownsRow B 5 1 (.slice (some ⟨g, 0, none⟩) k k) k (bcells (lowB k m)) := by
  refine ⟨by rw [bcells_length, lowB_length]; omega, .inr ⟨g, k, _, rfl, hB, hblk, Nat.le_refl _, hk, ?_, ?_⟩⟩
  · simp [fixCells, bcells_length, lowB_length]
  · simp only [fixCells, List.replicate_zero, List.nil_append]
    rw [List.take_of_length_le (by simp [bcells_length, lowB_length])]
theorem conv_one (x : Int) (h0 : 0 ≤ x) (h1 : x < 256) (wx : World) : (convert 22 9 (.slice (some ⟨wx.heap.size, 0, none⟩) 1 1)).run Tryz.prog (wx.alloc (.cells #[.int .u8 x] 5)) =
    .ok (.string ⟨#[UInt8.ofNat x.toNat]⟩) (wx.alloc (.cells #[.int .u8 x] 5)) := by
  have hx : x = ((UInt8.ofNat x.toNat).toNat : Int) := by rw [toNat_ofNat_lt _ (by omega)]; omega
  have := run_convert_bytes_back (P := Tryz.prog) (wx.alloc (.cells #[.int .u8 x] 5)) 22 9 5 ⟨wx.heap.size, 0, none⟩ 1 [UInt8.ofNat x.toNat] Tryz.underlying22 Tryz.underlying5 Tryz.underlying9 (fun j hj => by
    have hj0 : j = 0 := by simpa using hj
    subst hj0
    show (wx.alloc (.cells #[.int .u8 x] 5)).cell? ⟨wx.heap.size, 0, none⟩ = _
    rw [World.cell?_alloc_at (hn := rfl)]
    simp only [List.getElem_cons_zero]
    rw [← hx]; rfl)
  simpa using this

end Go.Proofs.YtojjojcmemifhaaGreatDoor
