/- EncodeHex, of the program and of the reference: both return two digits a byte ('Hx.encode'). The string is no longer than 2^20. -/
import Derived.Test.YthpgmhnlblobkaaDoorBytes
import Derived.Test.YthpgmhnlblobkaaDoorFixed
import Derived.Test.YthpgmhnlblobkaaDoorShelf
import Derived.Deep.RegionLaw
import Derived.IntWalk
namespace Go.Proofs.YthpgmhnlblobkaaDoor
open Go.RowKit Go.Lib
set_option linter.unusedVariables false
set_option linter.unusedSimpArgs false
theorem dig_all : ∀ k : Fin 16, (#[48, 49, 50, 51, 52, 53, 54, 55, 56, 57, 97, 98, 99, 100, 101, 102] : Array UInt8)[k.val] = Hx.digit k.val := by decide +kernel
theorem f118_any (x : Int) (w : World) (h0 : 0 ≤ x) (h1 : x < 16) :
    Calls Tryd.prog 118 #[.int .i64 x] w fun e w' => e = .returned (.int .u8 ((Hx.digit x.toNat).toNat : Int)) ∧ w' = w := by
  obtain ⟨k, rfl⟩ := Int.eq_ofNat_of_zero_le h0
  have hk : k < 16 := by omega
  have Hd := Lib.hid (dig_all ⟨k, hk⟩)
  go_enter Tryd.func118, Tryd.ntmps118
  go_wp2
  go_ret
  have := Hd.out
  exact ⟨ret_int (congrArg (fun b : UInt8 => (b.toNat : Int)) this), rfl⟩
theorem encode_append (l m : List UInt8) : Hx.encode (l ++ m) = Hx.encode l ++ Hx.encode m := by simp [Hx.encode]
theorem encode_take (s : ByteArray) (k : Nat) (h : k < s.size) : Hx.encode (s.data.toList.take (k + 1)) = Hx.encode (s.data.toList.take k) ++ [Hx.digit (s[k].toNat / 16), Hx.digit (s[k].toNat % 16)] := by
  rw [take_snoc s k h, encode_append]; simp [Hx.encode]
def encHex (s : ByteArray) : ByteArray := ⟨(Hx.encode s.data.toList).toArray⟩
set_option maxHeartbeats 400000 in
theorem f64_any (s : ByteArray) (w : World) (hs : s.size ≤ 1048576) :
    Calls Tryd.prog 64 #[.string s] w fun e w' => e = .returned (.string (encHex s)) ∧ Below w.heap.size w w' := by
  have hcv := run_bytes_of_string (P := Tryd.prog) w 9 86 5 s Tryd.underlying9 Tryd.underlying86 Tryd.underlying5
  go_enter Tryd.func64, Tryd.ntmps64
  go_wp2_with fail
  have hsz : s.data.toList.length = s.size := by simp
  refine (Tryd.hex_EncodeToString_bytes w.heap.size 0 _ s.data.toList _ ?_ ?_ ?_).mono ?_
  · intro i hi
    have hj : i < s.data.size := by simpa using hi
    have h1 := (World.cell?_alloc_mark w (bytesRow s (grownCap w s.size 0 5)) 5 ((bytesRow s (grownCap w s.size 0 5)).size, (bytesRow s (grownCap w s.size 0 5)).size + 1) i).trans (bytesRow_at s _ i hj)
    rw [Nat.zero_add]
    exact h1
  · show _ < (w.heap.push _).size
    simp
  · omega
  · rintro e w1 ⟨rfl, hb1⟩
    have hb0 : Below w.heap.size w w1 := Below.trans (((Below.refl _ w).alloc (Nat.le_refl _) _).drew) (hb1.mono (by show w.heap.size ≤ (w.heap.push _).size; simp))
    clear hb1 hcv
    go_wp2
    go_ret
    exact ⟨rfl, hb0⟩
end Go.Proofs.YthpgmhnlblobkaaDoor
