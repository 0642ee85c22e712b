/- EncodeHex, of the program and of the reference: both return two digits a byte ('Hx.encode'). The string is no longer than 2^20. -/
import Derived.Test.YtkjlfhccjpimcaaDoorBytes
import Derived.Test.YtkjlfhccjpimcaaDoorFixed
import Derived.Test.YtkjlfhccjpimcaaDoorShelf
import Derived.Deep.RegionLaw
import Derived.IntWalk
namespace Go.Proofs.YtkjlfhccjpimcaaDoor
open Go.RowKit Go.Lib
set_option linter.unusedVariables false
set_option linter.unusedSimpArgs false
theorem encode_append (l m : List UInt8) : Hx.encode (l ++ m) = Hx.encode l ++ Hx.encode m := by simp [Hx.encode]
theorem encode_take (s : ByteArray) (k : Nat) (h : k < s.size) : Hx.encode (s.data.toList.take (k + 1)) = Hx.encode (s.data.toList.take k) ++ [Hx.digit (s[k].toNat / 16), Hx.digit (s[k].toNat % 16)] := by
  rw [take_snoc s k h, encode_append]; simp [Hx.encode]
def encHex (s : ByteArray) : ByteArray := ⟨(Hx.encode s.data.toList).toArray⟩
set_option maxHeartbeats 400000 in
theorem f18_any (s : ByteArray) (w : World) (hs : s.size ≤ 1048576) :
    Calls Tryd.prog 18 #[.string s] w fun e w' => e = .returned (.string (encHex s)) ∧ Below w.heap.size w w' := by
  have hcv := run_bytes_of_string (P := Tryd.prog) w 9 25 5 s Tryd.underlying9 Tryd.underlying25 Tryd.underlying5
  go_enter Tryd.func18, Tryd.ntmps18
  go_wp2_with fail
  have hsz : s.data.toList.length = s.size := by simp
  refine (Tryd.hex_EncodeToString_bytes w.heap.size 0 _ s.data.toList _ ?_ ?_ ?_).mono ?_
  · intro i hi
    have hj : i < s.data.size := by simpa using hi
    have h1 := (World.cell?_alloc_mark w (bytesRow s (grownCap w s.size 0 5)) 5 ((bytesRow s (grownCap w s.size 0 5)).size, (bytesRow s (grownCap w s.size 0 5)).size + 1) i).trans (bytesRow_at s _ i hj)
    rw [Nat.zero_add]
    exact h1
  · show _ < (w.heap.push _).size
    simp
  · omega
  · rintro e w1 ⟨rfl, hb1⟩
    have hb0 : Below w.heap.size w w1 := Below.trans (((Below.refl _ w).alloc (Nat.le_refl _) _).drew) (hb1.mono (by show w.heap.size ≤ (w.heap.push _).size; simp))
    clear hb1 hcv
    go_wp2
    go_ret
    exact ⟨rfl, hb0⟩
end Go.Proofs.YtkjlfhccjpimcaaDoor
