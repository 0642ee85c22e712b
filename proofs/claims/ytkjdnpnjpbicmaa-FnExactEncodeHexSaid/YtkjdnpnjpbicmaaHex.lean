/- EncodeHex, of the program and of the reference: both return two digits a byte ('Hx.encode'). The string is no longer than 2^20. -/
import Derived.Test.YtkjdnpnjpbicmaaBytes
import Derived.Test.YtkjdnpnjpbicmaaFixed
import Derived.Test.YtkjdnpnjpbicmaaShelf
import Derived.Deep.RegionLaw
import Derived.IntWalk
namespace Go.Proofs.Ytkjdnpnjpbicmaa
open Go.RowKit Go.Lib
set_option linter.unusedVariables false
set_option linter.unusedSimpArgs false
theorem dig_all : ∀ k : Fin 16, (#[48, 49, 50, 51, 52, 53, 54, 55, 56, 57, 97, 98, 99, 100, 101, 102] : Array UInt8)[k.val] = Hx.digit k.val := by decide +kernel
theorem f22_any (x : Int) (w : World) (h0 : 0 ≤ x) (h1 : x < 16) :
    Calls Try.prog 22 #[.int .i64 x] w fun e w' => e = .returned (.int .u8 ((Hx.digit x.toNat).toNat : Int)) ∧ w' = w := by
  obtain ⟨k, rfl⟩ := Int.eq_ofNat_of_zero_le h0
  have hk : k < 16 := by omega
  have Hd := Lib.hid (dig_all ⟨k, hk⟩)
  go_enter Try.func22, Try.ntmps22
  go_wp2
  go_ret
  have := Hd.out
  exact ⟨ret_int (congrArg (fun b : UInt8 => (b.toNat : Int)) this), rfl⟩
theorem encode_append (l m : List UInt8) : Hx.encode (l ++ m) = Hx.encode l ++ Hx.encode m := by simp [Hx.encode]
theorem encode_take (s : ByteArray) (k : Nat) (h : k < s.size) : Hx.encode (s.data.toList.take (k + 1)) = Hx.encode (s.data.toList.take k) ++ [Hx.digit (s[k].toNat / 16), Hx.digit (s[k].toNat % 16)] := by
  rw [take_snoc s k h, encode_append]; simp [Hx.encode]
def encHex (s : ByteArray) : ByteArray := ⟨(Hx.encode s.data.toList).toArray⟩
set_option maxHeartbeats 400000 in
set_option maxRecDepth 100000 in
theorem f17_any (s : ByteArray) (w : World) (hs : s.size ≤ 1048576) :
    Calls Try.prog 17 #[.string s] w fun e w' => e = .returned (.string (encHex s)) ∧ Below w.heap.size w w' := by
  go_enter Try.func17, Try.ntmps17
  go_wp2
  go_loopw [3, 4] (fun v i wr => ∃ k : Nat, i = .int .i64 k ∧ k ≤ s.size ∧ wr.ownsRow w.heap.size 5 1 v (2 * k) (bcells (Hx.encode (s.data.toList.take k))) ∧ Below w.heap.size w wr) (fun _ i _ => s.size - (RowKit.intOf i).toNat)
  case atStart => exact ⟨0, rfl, Nat.zero_le _, World.ownsRow_lit _ _ _ (Nat.le_refl _) (by simp) (by simp), (Below.refl _ _).alloc (Nat.le_refl _) _⟩
  case round =>
    obtain ⟨k, rfl, hk, hown, hbel⟩ := hrel
    by_cases hlt : k < s.size
    · have hc := s[k].toNat_lt
      go_wp2_with fail
      have e1 : IntKind.i64.wrap (s[k].toNat : Int) = (s[k].toNat : Int) := IntWalk.i64_in _ (by omega)
      have e2 : IntKind.i64.wrap ((s[k].toNat : Int).tdiv 16) = ((s[k].toNat / 16 : Nat) : Int) := by rw [Int.tdiv_eq_ediv_of_nonneg (by omega), IntWalk.i64_in _ (by omega)]; rfl
      have e4 : IntKind.i64.wrap ((s[k].toNat : Int) / 16) = ((s[k].toNat / 16 : Nat) : Int) := by rw [IntWalk.i64_in _ (by omega)]; rfl
      have e3 : (s[k].toNat : Int).tmod 16 = ((s[k].toNat % 16 : Nat) : Int) := by rw [Int.tmod_eq_emod_of_nonneg (by omega)]; rfl
      go_region_law (first
        | (refine step_append_news_d slByte rfl _ _ rfl _ _ _ hbel hown rfl _ 2 rfl rfl (by simp [Value.oneCell']) (by omega) (by unfold maxLen; omega) ?_; intro v' w1 hown1 _ hb1)
        | (go_simp; go_at_call 22; refine (f22_any _ _ (by omega) (by omega)).mono ?_; rintro e w' ⟨rfl, rfl⟩))
      all_goals
        have HE := Lib.hid (encode_take s k hlt)
        have h1 : (List.map (fun b : UInt8 => Value.int .u8 (b.toNat : Int)) [Hx.digit (s[k].toNat / 16), Hx.digit (s[k].toNat % 16)]) = [Value.int .u8 ((Hx.digit ((s[k].toNat : Int) / 16).toNat).toNat : Int), Value.int .u8 ((Hx.digit ((s[k].toNat : Int) % 16).toNat).toNat : Int)] := rfl
        have hown2 : w1.ownsRow w.heap.size 5 1 v' (2 * (k + 1)) (bcells (Hx.encode (s.data.toList.take (k + 1)))) := by
          rw [HE.out, bcells_append]
          exact hown1
        clear hown1 hown h1 e1 e2 e3 e4
        go_wp2
        go_roundw
        case rel => exact ⟨k + 1, by go_num, by omega, hown2, hb1⟩
        case measure => simp [RowKit.intOf]; omega
    · have hks : k = s.size := by omega
      subst hks
      have hcv := own_string hown
      have hfin : encHex s = ⟨(Hx.encode (s.data.toList.take s.size)).toArray⟩ := by
        have : s.data.toList.take s.size = s.data.toList := List.take_of_length_le (by simp)
        rw [this]; rfl
      have Hfin := Lib.hid hfin
      clear hfin
      go_wp2
      go_ret
      exact ⟨ret_str (by rw [Hfin.out]), hbel⟩
set_option maxHeartbeats 400000 in
theorem f18_any (s : ByteArray) (w : World) (hs : s.size ≤ 1048576) :
    Calls Try.prog 18 #[.string s] w fun e w' => e = .returned (.string (encHex s)) ∧ Below w.heap.size w w' := by
  have hcv := run_bytes_of_string (P := Try.prog) w 9 32 5 s Try.underlying9 Try.underlying32 Try.underlying5
  go_enter Try.func18, Try.ntmps18
  go_wp2_with fail
  have hsz : s.data.toList.length = s.size := by simp
  refine (Try.hex_EncodeToString_bytes w.heap.size 0 _ s.data.toList _ ?_ ?_ ?_).mono ?_
  · intro i hi
    have hj : i < s.data.size := by simpa using hi
    have h1 := (World.cell?_alloc_mark w (bytesRow s (grownCap w s.size 0 5)) 5 ((bytesRow s (grownCap w s.size 0 5)).size, (bytesRow s (grownCap w s.size 0 5)).size + 1) i).trans (bytesRow_at s _ i hj)
    rw [Nat.zero_add]
    exact h1
  · show _ < (w.heap.push _).size
    simp
  · omega
  · rintro e w1 ⟨rfl, hb1⟩
    have hb0 : Below w.heap.size w w1 := Below.trans (((Below.refl _ w).alloc (Nat.le_refl _) _).drew) (hb1.mono (by show w.heap.size ≤ (w.heap.push _).size; simp))
    clear hb1 hcv
    go_wp2
    go_ret
    exact ⟨rfl, hb0⟩
end Go.Proofs.Ytkjdnpnjpbicmaa
