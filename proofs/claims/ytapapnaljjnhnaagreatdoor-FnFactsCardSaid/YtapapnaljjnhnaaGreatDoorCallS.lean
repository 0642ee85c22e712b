/- l2Call of the reference: a text NAME(A,B,..) is cut into its name and its parts. Condition: the text is no longer than 2^20. -/
import Derived.Test.YtapapnaljjnhnaaGreatDoorCutS
import Derived.Test.YtapapnaljjnhnaaGreatDoorParFL
import Derived.Test.YtapapnaljjnhnaaGreatDoorMC
import Derived.Deep.RegionHeld3
import Derived.Laws.Strings
namespace Go.Proofs.YtapapnaljjnhnaaGreatDoor
open Go.RowKit
set_option linter.unusedVariables false
set_option linter.unusedSimpArgs false
theorem run_slice_h {P : Program} (w : World) (t : TypeId) (s : ByteArray) (ht : P.underlying t = some .string) (kh : IntKind) (h : Int) (h0 : 0 ≤ h) (h1 : h ≤ s.size) :
    (Instr.slice t (.string s) none (some (.int kh h)) none).run P w = .ok (.string (s.extract 0 h.toNat)) w := by
  have eh : (h.toNat : Int) = h := Int.toNat_of_nonneg (by omega)
  simp [Instr.slice, run_underlying ht, Instr.sliceBounds, run_sliceBound, sliced, *, eh]
theorem run_index_at {P : Program} (w : World) (t : TypeId) (s : ByteArray) (ht : P.underlying t = some .string) (k : IntKind) (i : Int) (n : Nat) (hi : i = (n : Int)) (hn : n < s.size) (c : UInt8) (hc : s[n] = c) :
    (Instr.index t (.string s) (.int k i)).run P w = .ok (.int .u8 (c.toNat : Int)) w := by
  subst hi hc
  rw [run_index_string _ _ _ _ _ ht, dif_pos ⟨by omega, by omega⟩]
  simp
theorem list_at (s : ByteArray) (k : Nat) (h : k < s.size) (l : List UInt8) (hl : s.data.toList = l) (h2 : k < l.length) : s[k] = l[k] := by
  subst hl
  have : s[k] = s.data.toList[k]'(by simpa using h) := rfl
  exact this
/-- What cutting a call ends in. -/
def CallEnd (t : List UInt8) (w : World) (e : Ending) (w' : World) : Prop := ∃ (v : Value) (f : List Nat), e = .returned (.tuple #[.string ⟨(callS t).1.toArray⟩, v]) ∧ slR 9 1 strR w' v (callS t).2 f ∧ Below w.heap.size w w'
theorem CallEnd.mk {t : List UInt8} {w w' : World} {e : Ending} (n : List UInt8) (l : List (List UInt8)) (v : Value) (f : List Nat) (hc : callS t = (n, l)) (he : e = .returned (.tuple #[.string ⟨n.toArray⟩, v])) (hs : slR 9 1 strR w' v l f) (hb : Below w.heap.size w w') : CallEnd t w e w' :=
  ⟨v, f, by rw [hc]; exact he, by rw [hc]; exact hs, hb⟩
theorem lit_strs (w : World) : slR 9 1 strR (w.alloc (.cells #[] 9)) (.slice (some ⟨w.heap.size, 0, none⟩) 0 0) [] [w.heap.size] := (grR.lit strR (Nat.le_refl _) (Nat.le_refl _)).sl
set_option maxRecDepth 100000 in
set_option maxHeartbeats 3200000 in
theorem l2Call_any (s : ByteArray) (w : World) (hs : s.size ≤ 1048576) :
    Calls Tryz.prog 189 #[.string s] w (CallEnd s.data.toList w) := by
  have hsz : s.data.toList.length = s.size := by simp
  rcases first_or 40 s.data.toList with hno | ⟨a, t, hat, hno⟩
  · have HF := Lib.hid (callS_none hno)
    have HN := Lib.hid hno
    clear hno
    go_enter Tryz.func189, Tryz.ntmps189
    go_wp2
    go_loop [4] (fun i => ∃ k : Nat, i = .int .i64 (k : Int) ∧ k ≤ s.size) (fun i => s.size - (intOf i).toNat)
    case atStart => exact ⟨0, rfl, Nat.zero_le _⟩
    case round =>
      obtain ⟨k, rfl, hk⟩ := hrel
      by_cases hlt : k < s.size
      · have hkl : (k : Int) < (s.size : Int) := by omega
        have hne : s[k] ≠ 40 := by rw [list_at s k hlt _ rfl (by omega)]; exact HN.out _ (List.getElem_mem _)
        have hb : ((s[k].toNat : Int) == 40) = false := by
          rw [beq_eq_false_iff_ne]; intro e; exact hne (UInt8.toNat_inj.1 (by have h9 : (40 : UInt8).toNat = 40 := rfl; omega))
        clear hne
        go_wp2
        go_round
        case rel => exact ⟨k + 1, by go_num, by omega⟩
        case measure => simp [intOf]; omega
      · have hkl : ¬ (k : Int) < (s.size : Int) := by omega
        go_wp2
        go_ret2
        exact CallEnd.mk [] [] _ _ HF.out rfl (lit_strs _) (ba (Below.refl _ _))
  · have hpos : 0 < s.size := by rw [← hsz, hat]; simp; omega
    obtain ⟨n, hn⟩ : ∃ n, s.size = n + 1 := ⟨s.size - 1, by omega⟩
    by_cases hl : s.data.toList.getLast? = some 41
    · have hr : ∃ r, t = r ++ [41] := by
        rcases List.eq_nil_or_concat t with h | ⟨r, x, h⟩
        · rw [hat, h] at hl; simp at hl
        · rw [hat, h, List.concat_eq_append, show a ++ 40 :: (r ++ [x]) = (a ++ 40 :: r) ++ [x] by simp, List.getLast?_concat] at hl
          cases hl
          exact ⟨r, by rw [h, List.concat_eq_append]⟩
      obtain ⟨r, rfl⟩ := hr
      have HF := Lib.hid (show callS s.data.toList = (a, cutL 44 r) by rw [hat]; exact callS_hit hno)
      have HN := Lib.hid hno
      have Hat := Lib.hid hat
      have hlen : s.size = a.length + r.length + 2 := by rw [← hsz, hat]; simp; omega
      have hlast : s[n] = 41 := by rw [list_at s n (by omega) _ hat (by simp; omega), List.getElem_append_right (by omega)]; simp [show n - a.length = r.length + 1 by omega]
      have hix := fun w => run_index_at (P := Tryz.prog) w 9 s Tryz.underlying9 .i64 ((s.size : Int) - 1) n (by omega) (by omega) 41 hlast
      have hex1 : s.extract 0 a.length = ⟨a.toArray⟩ := by
        rw [Lib.extract_eq, hat]; simp
      have hex2 : s.extract (a.length + 1) (s.size - 1) = ⟨r.toArray⟩ := by
        rw [Lib.extract_eq, hat, show a ++ 40 :: (r ++ [41]) = (a ++ [40]) ++ (r ++ [41]) by simp, show a.length + 1 = (a ++ [40]).length by simp, List.drop_left]
        have h9 : s.size - 1 - (a ++ [40]).length = r.length := by simp only [List.length_append, List.length_cons, List.length_nil]; omega
        rw [h9, List.take_left]
      have hsl1 := fun w => (run_slice_h (P := Tryz.prog) w 9 s Tryz.underlying9 .i64 (a.length : Int) (by omega) (by omega)).trans (by rw [Int.toNat_natCast, hex1])
      have hsl2 := fun w => (run_slice_lh (P := Tryz.prog) w 9 s Tryz.underlying9 .i64 .i64 ((a.length : Int) + 1) ((s.size : Int) - 1) (by omega) (by omega) (by omega)).trans (by rw [show ((a.length : Int) + 1).toNat = a.length + 1 by omega, show ((s.size : Int) - 1).toNat = s.size - 1 by omega, hex2])
      have hq := fun w => l2Cut_any ⟨r.toArray⟩ 44 w (show r.toArray.size ≤ 1048576 by rw [List.size_toArray]; omega)
      have hla : a.length < s.size := by omega
      have h40 : s[a.length]'hla = 40 := by rw [list_at s a.length hla _ hat (by simp)]; simp
      have H40 := Lib.hid h40
      have Hlen := Lib.hid hlen
      have hlr : (0 : Int) < (s.size : Int) := by omega
      clear hlen hn hlast hex1 hex2 hat hl hno h40 hsz
      go_enter Tryz.func189, Tryz.ntmps189
      go_wp2
      go_loop [4] (fun i => ∃ k : Nat, i = .int .i64 (k : Int) ∧ k ≤ a.length) (fun i => s.size - (intOf i).toNat)
      case atStart => exact ⟨0, rfl, Nat.zero_le _⟩
      case round =>
        obtain ⟨k, rfl, hk⟩ := hrel
        have hks : k < s.size := by omega
        have hkl : (k : Int) < (s.size : Int) := by omega
        by_cases hlt : k < a.length
        · have hne : s[k] ≠ 40 := by rw [list_at s k hks _ Hat.out (by simp; omega), List.getElem_append_left hlt]; exact HN.out _ (List.getElem_mem _)
          have hb : ((s[k].toNat : Int) == 40) = false := by
            rw [beq_eq_false_iff_ne]; intro e; exact hne (UInt8.toNat_inj.1 (by have h9 : (40 : UInt8).toNat = 40 := rfl; omega))
          clear hne
          go_wp2
          go_round
          case rel => exact ⟨k + 1, by go_num, by omega⟩
          case measure => simp [intOf]; omega
        · obtain rfl : k = a.length := by omega
          have hb : ((s[a.length].toNat : Int) == 40) = true := by rw [H40.out]; rfl
          have hw1 : IntKind.i64.wrap ((a.length : Int) + 1) = (a.length : Int) + 1 := IntWalk.i64_in _ (by omega)
          have hw2 : IntKind.i64.wrap ((s.size : Int) - 1) = (s.size : Int) - 1 := IntWalk.i64_in _ (by omega)
          go_wp2_with fail
          go_region_held3 (fun w' => True) (trivial)
            (first
              | (go_at_call 131
                 refine (hq _).mono ?_
                 rintro e w1 ⟨gp, cp, fp, rfl, hgp, hb1⟩
                 have hbw : Below w.heap.size w w1 := bt (by (repeat (first | exact Below.refl _ _ | refine bdr ?_ | refine ba ?_))) hb1))
          go_wp2
          go_ret2
          exact CallEnd.mk a (cutL 44 r) _ _ HF.out rfl hgp.sl hbw
    · have HF := Lib.hid (callS_no hl)
      have hlast : s[n] ≠ 41 := fun e => hl (by
        rw [List.getLast?_eq_getElem?, hsz, hn]
        have h2 : n < s.data.toList.length := by omega
        rw [show n + 1 - 1 = n by omega, List.getElem?_eq_getElem h2, ← list_at s n (by omega) _ rfl h2, e])
      obtain ⟨c, hc⟩ : ∃ c, s[n] = c := ⟨_, rfl⟩
      have hix := fun w => run_index_at (P := Tryz.prog) w 9 s Tryz.underlying9 .i64 ((s.size : Int) - 1) n (by omega) (by omega) c hc
      have hcb : ((c.toNat : Int) == 41) = false := by
        rw [beq_eq_false_iff_ne]; intro e; exact hlast (by rw [hc]; exact UInt8.toNat_inj.1 (by have h9 : (41 : UInt8).toNat = 41 := rfl; omega))
      have hlr : (0 : Int) < (s.size : Int) := by omega
      clear hn hc hlast hat hl hno hsz
      go_enter Tryz.func189, Tryz.ntmps189
      go_wp2
      go_loop [4] (fun i => ∃ k : Nat, i = .int .i64 (k : Int) ∧ k ≤ s.size) (fun i => s.size - (intOf i).toNat)
      case atStart => exact ⟨0, rfl, Nat.zero_le _⟩
      case round =>
        obtain ⟨k, rfl, hk⟩ := hrel
        by_cases hlt : k < s.size
        · have hkl : (k : Int) < (s.size : Int) := by omega
          obtain ⟨x, hx⟩ : ∃ x, ((s[k].toNat : Int) == 40) = x := ⟨_, rfl⟩
          cases x with
          | true =>
            go_wp2
            go_round
            case rel => exact ⟨k + 1, by go_num, by omega⟩
            case measure => simp [intOf]; omega
          | false =>
            go_wp2
            go_round
            case rel => exact ⟨k + 1, by go_num, by omega⟩
            case measure => simp [intOf]; omega
        · have hkl : ¬ (k : Int) < (s.size : Int) := by omega
          go_wp2
          go_ret2
          exact CallEnd.mk [] [] _ _ HF.out rfl (lit_strs _) (ba (Below.refl _ _))
end Go.Proofs.YtapapnaljjnhnaaGreatDoor
