/- Several of my texts as one: CutS, CallS, ParFS, ParAS. -/
import Derived.Test.YtpdmdfkcaabnaaaGreatDoorParL
import Derived.Test.YtpdmdfkcaabnaaaGreatDoorParI
import Derived.Test.YtpdmdfkcaabnaaaGreatDoorMB
import Derived.Laws.Strings
import Derived.Laws.Slices
import Derived.Test.YtpdmdfkcaabnaaaGreatDoorParFL
import Derived.Test.YtpdmdfkcaabnaaaGreatDoorMC
import Derived.Deep.RegionHeld3
import Derived.Test.YtpdmdfkcaabnaaaGreatDoorTwo
import Derived.Deep.RegionLaw
import Derived.Test.YtpdmdfkcaabnaaaGreatDoorParQL
/- l2Cut, l2Num, l2Rel of the reference: texts cut into pieces, numbers read off them. Condition: the text is no longer than 2^20. -/
namespace Go.Proofs.YtpdmdfkcaabnaaaGreatDoor
open Go.RowKit
set_option linter.unusedVariables false
set_option linter.unusedSimpArgs false
theorem grR.lit2 {α : Type} {E : TypeId} {sz : Nat} {w : World} {n : Nat} (R : Rd α) (hn : n = w.heap.size) : grR E sz R w.heap.size (w.alloc (.cells #[] E)) (.slice (some ⟨n, 0, none⟩) 0 0) [] [w.heap.size] := by
  subst hn; exact grR.lit R (Nat.le_refl _) (Nat.le_refl _)
theorem take_data (s : ByteArray) (k : Nat) (h : s.size ≤ k) : s.data.toList.take k = s.data.toList := List.take_of_length_le (by simpa using h)
theorem str_more (p : List UInt8) (s : ByteArray) (k : Nat) (h : k < s.size) : (⟨p.toArray⟩ : ByteArray) ++ s.extract k (k + 1) = ⟨(p ++ [s[k]]).toArray⟩ := by
  apply ByteArray.ext
  have e : (s.extract k (k + 1)).data.toList = [s[k]] := by
    have h1 : (s.extract k (k + 1)).data.toList = (s.data.toList.drop k).take 1 := by simp
    have hk : k < s.data.toList.length := by simpa using h
    rw [h1, List.drop_eq_getElem_cons hk]
    rfl
  rw [ByteArray.data_append]
  apply Array.ext'
  simp only [Array.toList_append, e]
theorem run_slice_lh {P : Program} (w : World) (t : TypeId) (s : ByteArray) (ht : P.underlying t = some .string) (kl kh : IntKind) (l h : Int) (h0 : 0 ≤ l) (h1 : l ≤ h) (h2 : h ≤ s.size) :
    (Instr.slice t (.string s) (some (.int kl l)) (some (.int kh h)) none).run P w = .ok (.string (s.extract l.toNat h.toNat)) w := by
  have eh : (h.toNat : Int) = h := Int.toNat_of_nonneg (by omega)
  simp [Instr.slice, run_underlying ht, Instr.sliceBounds, run_sliceBound, sliced, *, eh, (by omega : 0 ≤ h)]
/-- What cutting ends in. -/
def CutEnd (l : List (List UInt8)) (w : World) (e : Ending) (w' : World) : Prop := ∃ (g cap : Nat) (f : List Nat), e = .returned (.slice (some ⟨g, 0, none⟩) l.length cap) ∧ grR 9 1 strR w.heap.size w' (.slice (some ⟨g, 0, none⟩) l.length cap) l f ∧ Below w.heap.size w w'
theorem CutEnd.mk {l : List (List UInt8)} {w w' : World} {e : Ending} (g cap : Nat) (f : List Nat) (he : e = .returned (.slice (some ⟨g, 0, none⟩) l.length cap)) (h : grR 9 1 strR w.heap.size w' (.slice (some ⟨g, 0, none⟩) l.length cap) l f) (hb : Below w.heap.size w w') : CutEnd l w e w' := ⟨g, cap, f, he, h, hb⟩
set_option maxRecDepth 100000 in
set_option maxHeartbeats 1600000 in
theorem l2Cut_any (s : ByteArray) (c : UInt8) (w : World) (hs : s.size ≤ 1048576) :
    Calls Tryz.prog 131 #[.string s, .int .u8 (c.toNat : Int)] w (CutEnd (cutL c s.data.toList) w) := by
  have hsz : s.data.toList.length = s.size := by simp
  have hc8 := c.toNat_lt
  go_enter Tryz.func131, Tryz.ntmps131
  go_wp2
  go_loopw [5, 6, 7] (fun u p i wr => ∃ (k gu cu : Nat) (lo : List (List UInt8)) (la : List UInt8) (fo : List Nat), i = .int .i64 (k : Int) ∧ k ≤ s.size ∧ u = .slice (some ⟨gu, 0, none⟩) lo.length cu ∧ p = .string ⟨la.toArray⟩ ∧ Hid (lo = cutDone c (s.data.toList.take k)) ∧ Hid (la = cutLast c (s.data.toList.take k)) ∧ grR 9 1 strR w.heap.size wr u lo fo ∧ Below w.heap.size w wr) (fun _ _ i _ => s.size - (intOf i).toNat)
  case atStart => exact ⟨0, _, _, [], [], _, rfl, Nat.zero_le _, rfl, rfl, Lib.hid rfl, Lib.hid rfl, grR.lit2 strR rfl, ba (Below.refl _ _)⟩
  case round =>
    obtain ⟨k, gu, cu, lo, la, fo, rfl, hk, rfl, rfl, HL, HA, hgr, hbel⟩ := hrel
    have hlo : lo.length ≤ 1048576 := by rw [HL.out]; have := cutDone_len c (s.data.toList.take k); rw [List.length_take] at this; omega
    have hla : la.length ≤ 1048576 := by rw [HA.out]; have := cutLast_len c (s.data.toList.take k); rw [List.length_take] at this; omega
    by_cases hlt : k < s.size
    · have hkl : (k : Int) < (s.size : Int) := by omega
      have HT := Lib.hid (take_snoc s k hlt)
      have hm := str_more la s k hlt
      obtain ⟨b, hb⟩ : ∃ b, s[k] = b := ⟨_, rfl⟩
      by_cases hbc : b = c
      · have hbi : (s[k].toNat : Int) = (c.toNat : Int) := by rw [hb, hbc]
        have HL2 := Lib.hid (show lo ++ [la] = cutDone c (s.data.toList.take (k + 1)) by rw [HT.out, hb, hbc, (cut_sep c _).1, HL.out, HA.out])
        have HA2 := Lib.hid (show [] = cutLast c (s.data.toList.take (k + 1)) by rw [HT.out, hb, hbc, (cut_sep c _).2])
        clear hb hbc hm
        go_wp2_with (at_builtin; refine wpList_gr slStr good_str rfl _ _ rfl hgr hbel rfl #[.string _] la [] ⟨rfl, rfl⟩ rfl (Fresh.nil _) (by simp) rfl (by simp [Value.oneCell']) (by omega) (by unfold maxLen; omega) ?_; intro g3 cap3 w2 f2 hgr3 hb3 hg3)
        go_roundw
        case rel => exact ⟨k + 1, g3, cap3, lo ++ [la], [], f2, by go_num, by omega, by simp, rfl, HL2, HA2, by simpa using hgr3, hb3⟩
        case measure => simp [intOf]; omega
      · have hbi : ((s[k].toNat : Int) == (c.toNat : Int)) = false := by
          rw [beq_eq_false_iff_ne, hb]; intro e; exact hbc (UInt8.toNat_inj.1 (by omega))
        have HL2 := Lib.hid (show lo = cutDone c (s.data.toList.take (k + 1)) by rw [HT.out, hb, (cut_more _ hbc).1, HL.out])
        have HA2 := Lib.hid (show la ++ [s[k]] = cutLast c (s.data.toList.take (k + 1)) by rw [HT.out, hb, (cut_more _ hbc).2, HA.out])
        clear hb hbc
        have Hm := Lib.hid hm
        have hk1 : (k : Int) + 1 ≤ (s.size : Int) := by omega
        have hk0 : (0 : Int) ≤ (k : Int) := by omega
        have hsl := fun (w : World) => run_slice_lh (P := Tryz.prog) w 9 s Tryz.underlying9 .i64 .i64 (k : Int) ((k : Int) + 1) (by omega) (by omega) hk1
        clear hm
        go_wp2
        go_roundw
        case rel => exact ⟨k + 1, gu, cu, lo, la ++ [s[k]], fo, by go_num, by omega, rfl, by rw [← Hm.out], HL2, HA2, hgr, hbel⟩
        case measure => simp [intOf]; omega
    · have hkl : ¬ (k : Int) < (s.size : Int) := by omega
      have HF := Lib.hid (show cutL c s.data.toList = lo ++ [la] by rw [HL.out, HA.out, take_data s k (by omega)]; exact cut_all _ _)
      go_wp2_with (at_builtin; refine wpList_gr slStr good_str rfl _ _ rfl hgr hbel rfl #[.string _] la [] ⟨rfl, rfl⟩ rfl (Fresh.nil _) (by simp) rfl (by simp [Value.oneCell']) (by omega) (by unfold maxLen; omega) ?_; intro g3 cap3 w2 f2 hgr3 hb3 hg3)
      go_ret
      exact CutEnd.mk g3 cap3 f2 (by rw [HF.out]; simp) (by rw [HF.out]; simpa using hgr3) hb3
theorem par_fun {t : List UInt8} {v : Int} {k : Bool} (h : IntIs t v k) : v = (pInt t).getD 0 ∧ k = (pInt t).isSome := h.one (pInt_is t)
set_option maxRecDepth 100000 in
theorem l2Num_any (s : ByteArray) (w : World) (hs : s.size ≤ 1048576) :
    Calls Tryz.prog 188 #[.string s] w fun e w' => e = .returned (.int .i64 (numV s.data.toList)) ∧ Below w.heap.size w w' := by
  have hq := specParseInt_any s w hs
  cases hp : pInt s.data.toList with
  | some n =>
    have Hf := Lib.hid (show numV s.data.toList = n by unfold numV; rw [hp]; rfl)
    have Hq := Lib.hid (fun v k (h : IntIs s.data.toList v k) => (show v = n ∧ k = true by have := par_fun h; rw [hp] at this; exact this))
    clear hp
    go_enter Tryz.func188, Tryz.ntmps188
    go_wp2_with fail
    refine hq.mono ?_
    rintro e w1 ⟨v, k, rfl, hI, hb⟩
    obtain ⟨rfl, rfl⟩ := Hq.out _ _ hI
    clear hI hq
    go_wp2
    go_ret
    exact ⟨ret_int (by rw [Hf.out]), hb⟩
  | none =>
    have Hf := Lib.hid (show numV s.data.toList = -100000 by unfold numV; rw [hp]; rfl)
    have Hq := Lib.hid (fun v k (h : IntIs s.data.toList v k) => (show v = 0 ∧ k = false by have := par_fun h; rw [hp] at this; exact this))
    clear hp
    go_enter Tryz.func188, Tryz.ntmps188
    go_wp2_with fail
    refine hq.mono ?_
    rintro e w1 ⟨v, k, rfl, hI, hb⟩
    obtain ⟨rfl, rfl⟩ := Hq.out _ _ hI
    clear hI hq
    go_wp2
    go_ret
    exact ⟨ret_int (by rw [Hf.out]), hb⟩
theorem relV_other {t : List UInt8} (h : ∀ b r, t ≠ 114 :: b :: r) : relV t = -1 := by
  unfold relV
  split
  · rename_i b r; exact absurd rfl (h b r)
  · rfl
set_option maxRecDepth 100000 in
set_option maxHeartbeats 800000 in
theorem l2Rel_any (s : ByteArray) (w : World) (hs : s.size ≤ 1048576) :
    Calls Tryz.prog 190 #[.string s] w fun e w' => e = .returned (.int .i64 (relV s.data.toList)) ∧ Below w.heap.size w w' := by
  have hsz : s.data.toList.length = s.size := by simp
  by_cases h2 : s.size < 2
  · have h2i : (s.size : Int) < 2 := by omega
    have Hf := Lib.hid (relV_other (t := s.data.toList) fun b r e => by rw [e] at hsz; simp at hsz; omega)
    go_enter Tryz.func190, Tryz.ntmps190
    go_wp2
    go_ret
    exact ⟨ret_int (by rw [Hf.out]), Below.refl _ _⟩
  · have h2i : ¬ (s.size : Int) < 2 := by omega
    have h0 : 0 < s.size := by omega
    have hs0 : (0 : Int) < (s.size : Int) := by omega
    obtain ⟨a, r, hl⟩ : ∃ a r, s.data.toList = a :: r := by
      cases hl : s.data.toList with
      | nil => rw [hl] at hsz; simp at hsz; omega
      | cons a r => exact ⟨a, r, rfl⟩
    have ha : s[0] = a := by
      have : s[0] = s.data.toList[0]'(by rw [hsz]; omega) := rfl
      rw [this]; simp [hl]
    by_cases h114 : a = 114
    · have hb : (s[0].toNat : Int) = 114 := by rw [ha, h114]; rfl
      have ht : (s.extract 1 s.size).data.toList = r := by
        have h1 : (s.extract 1 s.size).data.toList = (s.data.toList.drop 1).take (s.size - 1) := by simp
        rw [h1, hl]
        rw [hl] at hsz
        simp only [List.drop_succ_cons, List.drop_zero]
        exact List.take_of_length_le (by simp at hsz; omega)
      have Hf := Lib.hid (show relV s.data.toList = numV (s.extract 1 s.size).data.toList by
        rw [ht, hl, h114]
        cases r with
        | nil => rw [hl] at hsz; simp at hsz; omega
        | cons b t => rfl)
      have hq := fun w => l2Num_any (s.extract 1 s.size) w (by rw [ByteArray.size_extract]; omega)
      have h1s : (1 : Int) ≤ (s.size : Int) := by omega
      clear ha ht hl
      go_enter Tryz.func190, Tryz.ntmps190
      go_wp2_with fail
      refine (hq _).mono ?_
      rintro e w1 ⟨rfl, hb1⟩
      clear hq
      go_wp2
      go_ret
      exact ⟨ret_int (by rw [Hf.out]; try simp), hb1⟩
    · have hb : ((s[0].toNat : Int) == 114) = false := by
        rw [beq_eq_false_iff_ne, ha]; intro e; exact h114 (UInt8.toNat_inj.1 (by have h9 : (114 : UInt8).toNat = 114 := rfl; omega))
      have Hf := Lib.hid (relV_other (t := s.data.toList) fun b r' e => by rw [hl] at e; cases e; exact h114 rfl)
      clear ha hl
      go_enter Tryz.func190, Tryz.ntmps190
      go_wp2
      go_ret
      exact ⟨ret_int (by rw [Hf.out]), Below.refl _ _⟩
end Go.Proofs.YtpdmdfkcaabnaaaGreatDoor
/- l2Call of the reference: a text NAME(A,B,..) is cut into its name and its parts. Condition: the text is no longer than 2^20. -/
namespace Go.Proofs.YtpdmdfkcaabnaaaGreatDoor
open Go.RowKit
set_option linter.unusedVariables false
set_option linter.unusedSimpArgs false
theorem run_slice_h {P : Program} (w : World) (t : TypeId) (s : ByteArray) (ht : P.underlying t = some .string) (kh : IntKind) (h : Int) (h0 : 0 ≤ h) (h1 : h ≤ s.size) :
    (Instr.slice t (.string s) none (some (.int kh h)) none).run P w = .ok (.string (s.extract 0 h.toNat)) w := by
  have eh : (h.toNat : Int) = h := Int.toNat_of_nonneg (by omega)
  simp [Instr.slice, run_underlying ht, Instr.sliceBounds, run_sliceBound, sliced, *, eh]
theorem run_index_at {P : Program} (w : World) (t : TypeId) (s : ByteArray) (ht : P.underlying t = some .string) (k : IntKind) (i : Int) (n : Nat) (hi : i = (n : Int)) (hn : n < s.size) (c : UInt8) (hc : s[n] = c) :
    (Instr.index t (.string s) (.int k i)).run P w = .ok (.int .u8 (c.toNat : Int)) w := by
  subst hi hc
  rw [run_index_string _ _ _ _ _ ht, dif_pos ⟨by omega, by omega⟩]
  simp
theorem list_at (s : ByteArray) (k : Nat) (h : k < s.size) (l : List UInt8) (hl : s.data.toList = l) (h2 : k < l.length) : s[k] = l[k] := by
  subst hl
  have : s[k] = s.data.toList[k]'(by simpa using h) := rfl
  exact this
/-- What cutting a call ends in. -/
def CallEnd (t : List UInt8) (w : World) (e : Ending) (w' : World) : Prop := ∃ (v : Value) (f : List Nat), e = .returned (.tuple #[.string ⟨(callS t).1.toArray⟩, v]) ∧ slR 9 1 strR w' v (callS t).2 f ∧ Below w.heap.size w w'
theorem CallEnd.mk {t : List UInt8} {w w' : World} {e : Ending} (n : List UInt8) (l : List (List UInt8)) (v : Value) (f : List Nat) (hc : callS t = (n, l)) (he : e = .returned (.tuple #[.string ⟨n.toArray⟩, v])) (hs : slR 9 1 strR w' v l f) (hb : Below w.heap.size w w') : CallEnd t w e w' :=
  ⟨v, f, by rw [hc]; exact he, by rw [hc]; exact hs, hb⟩
theorem lit_strs (w : World) : slR 9 1 strR (w.alloc (.cells #[] 9)) (.slice (some ⟨w.heap.size, 0, none⟩) 0 0) [] [w.heap.size] := (grR.lit strR (Nat.le_refl _) (Nat.le_refl _)).sl
set_option maxRecDepth 100000 in
set_option maxHeartbeats 3200000 in
theorem l2Call_any (s : ByteArray) (w : World) (hs : s.size ≤ 1048576) :
    Calls Tryz.prog 189 #[.string s] w (CallEnd s.data.toList w) := by
  have hsz : s.data.toList.length = s.size := by simp
  rcases first_or 40 s.data.toList with hno | ⟨a, t, hat, hno⟩
  · have HF := Lib.hid (callS_none hno)
    have HN := Lib.hid hno
    clear hno
    go_enter Tryz.func189, Tryz.ntmps189
    go_wp2
    go_loop [4] (fun i => ∃ k : Nat, i = .int .i64 (k : Int) ∧ k ≤ s.size) (fun i => s.size - (intOf i).toNat)
    case atStart => exact ⟨0, rfl, Nat.zero_le _⟩
    case round =>
      obtain ⟨k, rfl, hk⟩ := hrel
      by_cases hlt : k < s.size
      · have hkl : (k : Int) < (s.size : Int) := by omega
        have hne : s[k] ≠ 40 := by rw [list_at s k hlt _ rfl (by omega)]; exact HN.out _ (List.getElem_mem _)
        have hb : ((s[k].toNat : Int) == 40) = false := by
          rw [beq_eq_false_iff_ne]; intro e; exact hne (UInt8.toNat_inj.1 (by have h9 : (40 : UInt8).toNat = 40 := rfl; omega))
        clear hne
        go_wp2
        go_round
        case rel => exact ⟨k + 1, by go_num, by omega⟩
        case measure => simp [intOf]; omega
      · have hkl : ¬ (k : Int) < (s.size : Int) := by omega
        go_wp2
        go_ret2
        exact CallEnd.mk [] [] _ _ HF.out rfl (lit_strs _) (ba (Below.refl _ _))
  · have hpos : 0 < s.size := by rw [← hsz, hat]; simp; omega
    obtain ⟨n, hn⟩ : ∃ n, s.size = n + 1 := ⟨s.size - 1, by omega⟩
    by_cases hl : s.data.toList.getLast? = some 41
    · have hr : ∃ r, t = r ++ [41] := by
        rcases List.eq_nil_or_concat t with h | ⟨r, x, h⟩
        · rw [hat, h] at hl; simp at hl
        · rw [hat, h, List.concat_eq_append, show a ++ 40 :: (r ++ [x]) = (a ++ 40 :: r) ++ [x] by simp, List.getLast?_concat] at hl
          cases hl
          exact ⟨r, by rw [h, List.concat_eq_append]⟩
      obtain ⟨r, rfl⟩ := hr
      have HF := Lib.hid (show callS s.data.toList = (a, cutL 44 r) by rw [hat]; exact callS_hit hno)
      have HN := Lib.hid hno
      have Hat := Lib.hid hat
      have hlen : s.size = a.length + r.length + 2 := by rw [← hsz, hat]; simp; omega
      have hlast : s[n] = 41 := by rw [list_at s n (by omega) _ hat (by simp; omega), List.getElem_append_right (by omega)]; simp [show n - a.length = r.length + 1 by omega]
      have hix := fun w => run_index_at (P := Tryz.prog) w 9 s Tryz.underlying9 .i64 ((s.size : Int) - 1) n (by omega) (by omega) 41 hlast
      have hex1 : s.extract 0 a.length = ⟨a.toArray⟩ := by
        rw [Lib.extract_eq, hat]; simp
      have hex2 : s.extract (a.length + 1) (s.size - 1) = ⟨r.toArray⟩ := by
        rw [Lib.extract_eq, hat, show a ++ 40 :: (r ++ [41]) = (a ++ [40]) ++ (r ++ [41]) by simp, show a.length + 1 = (a ++ [40]).length by simp, List.drop_left]
        have h9 : s.size - 1 - (a ++ [40]).length = r.length := by simp only [List.length_append, List.length_cons, List.length_nil]; omega
        rw [h9, List.take_left]
      have hsl1 := fun w => (run_slice_h (P := Tryz.prog) w 9 s Tryz.underlying9 .i64 (a.length : Int) (by omega) (by omega)).trans (by rw [Int.toNat_natCast, hex1])
      have hsl2 := fun w => (run_slice_lh (P := Tryz.prog) w 9 s Tryz.underlying9 .i64 .i64 ((a.length : Int) + 1) ((s.size : Int) - 1) (by omega) (by omega) (by omega)).trans (by rw [show ((a.length : Int) + 1).toNat = a.length + 1 by omega, show ((s.size : Int) - 1).toNat = s.size - 1 by omega, hex2])
      have hq := fun w => l2Cut_any ⟨r.toArray⟩ 44 w (show r.toArray.size ≤ 1048576 by rw [List.size_toArray]; omega)
      have hla : a.length < s.size := by omega
      have h40 : s[a.length]'hla = 40 := by rw [list_at s a.length hla _ hat (by simp)]; simp
      have H40 := Lib.hid h40
      have Hlen := Lib.hid hlen
      have hlr : (0 : Int) < (s.size : Int) := by omega
      clear hlen hn hlast hex1 hex2 hat hl hno h40 hsz
      go_enter Tryz.func189, Tryz.ntmps189
      go_wp2
      go_loop [4] (fun i => ∃ k : Nat, i = .int .i64 (k : Int) ∧ k ≤ a.length) (fun i => s.size - (intOf i).toNat)
      case atStart => exact ⟨0, rfl, Nat.zero_le _⟩
      case round =>
        obtain ⟨k, rfl, hk⟩ := hrel
        have hks : k < s.size := by omega
        have hkl : (k : Int) < (s.size : Int) := by omega
        by_cases hlt : k < a.length
        · have hne : s[k] ≠ 40 := by rw [list_at s k hks _ Hat.out (by simp; omega), List.getElem_append_left hlt]; exact HN.out _ (List.getElem_mem _)
          have hb : ((s[k].toNat : Int) == 40) = false := by
            rw [beq_eq_false_iff_ne]; intro e; exact hne (UInt8.toNat_inj.1 (by have h9 : (40 : UInt8).toNat = 40 := rfl; omega))
          clear hne
          go_wp2
          go_round
          case rel => exact ⟨k + 1, by go_num, by omega⟩
          case measure => simp [intOf]; omega
        · obtain rfl : k = a.length := by omega
          have hb : ((s[a.length].toNat : Int) == 40) = true := by rw [H40.out]; rfl
          have hw1 : IntKind.i64.wrap ((a.length : Int) + 1) = (a.length : Int) + 1 := IntWalk.i64_in _ (by omega)
          have hw2 : IntKind.i64.wrap ((s.size : Int) - 1) = (s.size : Int) - 1 := IntWalk.i64_in _ (by omega)
          go_wp2_with fail
          go_region_held3 (fun w' => True) (trivial)
            (first
              | (go_at_call 131
                 refine (hq _).mono ?_
                 rintro e w1 ⟨gp, cp, fp, rfl, hgp, hb1⟩
                 have hbw : Below w.heap.size w w1 := bt (by (repeat (first | exact Below.refl _ _ | refine bdr ?_ | refine ba ?_))) hb1))
          go_wp2
          go_ret2
          exact CallEnd.mk a (cutL 44 r) _ _ HF.out rfl hgp.sl hbw
    · have HF := Lib.hid (callS_no hl)
      have hlast : s[n] ≠ 41 := fun e => hl (by
        rw [List.getLast?_eq_getElem?, hsz, hn]
        have h2 : n < s.data.toList.length := by omega
        rw [show n + 1 - 1 = n by omega, List.getElem?_eq_getElem h2, ← list_at s n (by omega) _ rfl h2, e])
      obtain ⟨c, hc⟩ : ∃ c, s[n] = c := ⟨_, rfl⟩
      have hix := fun w => run_index_at (P := Tryz.prog) w 9 s Tryz.underlying9 .i64 ((s.size : Int) - 1) n (by omega) (by omega) c hc
      have hcb : ((c.toNat : Int) == 41) = false := by
        rw [beq_eq_false_iff_ne]; intro e; exact hlast (by rw [hc]; exact UInt8.toNat_inj.1 (by have h9 : (41 : UInt8).toNat = 41 := rfl; omega))
      have hlr : (0 : Int) < (s.size : Int) := by omega
      clear hn hc hlast hat hl hno hsz
      go_enter Tryz.func189, Tryz.ntmps189
      go_wp2
      go_loop [4] (fun i => ∃ k : Nat, i = .int .i64 (k : Int) ∧ k ≤ s.size) (fun i => s.size - (intOf i).toNat)
      case atStart => exact ⟨0, rfl, Nat.zero_le _⟩
      case round =>
        obtain ⟨k, rfl, hk⟩ := hrel
        by_cases hlt : k < s.size
        · have hkl : (k : Int) < (s.size : Int) := by omega
          obtain ⟨x, hx⟩ : ∃ x, ((s[k].toNat : Int) == 40) = x := ⟨_, rfl⟩
          cases x with
          | true =>
            go_wp2
            go_round
            case rel => exact ⟨k + 1, by go_num, by omega⟩
            case measure => simp [intOf]; omega
          | false =>
            go_wp2
            go_round
            case rel => exact ⟨k + 1, by go_num, by omega⟩
            case measure => simp [intOf]; omega
        · have hkl : ¬ (k : Int) < (s.size : Int) := by omega
          go_wp2
          go_ret2
          exact CallEnd.mk [] [] _ _ HF.out rfl (lit_strs _) (ba (Below.refl _ _))
end Go.Proofs.YtpdmdfkcaabnaaaGreatDoor
/- ParseFact of the reference: it returns what 'FactIs' says. Condition: the text is no longer than 2^20. -/
namespace Go.Proofs.YtpdmdfkcaabnaaaGreatDoor
open Go.RowKit
set_option linter.unusedVariables false
set_option linter.unusedSimpArgs false
/-- What parsing a fact ends in. -/
def PfEnd (s : List Int) (t : List UInt8) (w : World) (e : Ending) (w' : World) : Prop :=
  ∃ (x : FactD) (k : Bool) (vi : Value) (fi : List Nat), e = .returned (.tuple #[.agg #[.int .i64 x.rel, vi], .bool k]) ∧ FactIs s t x k ∧ ints w' vi x.vals fi ∧ Fresh w.heap.size fi ∧ Below w.heap.size w w'
theorem PfEnd.no {s : List Int} {t : List UInt8} {w : World} {e : Ending} {w' : World} (he : e = .returned (.tuple #[.agg #[.int .i64 0, .slice none 0 0], .bool false])) (h : ∀ n, factB s n = true → factFS n ≠ t) (hb : Below w.heap.size w w') : PfEnd s t w e w' :=
  ⟨⟨0, []⟩, false, _, [], he, .inr ⟨h, rfl, rfl⟩, slR.nilv _ _ _ _, Fresh.nil _, hb⟩
theorem PfEnd.yes {s : List Int} {t : List UInt8} {w : World} {e : Ending} {w' : World} (x : FactD) (vi : Value) (fi : List Nat) (he : e = .returned (.tuple #[.agg #[.int .i64 x.rel, vi], .bool true])) (h : factB s x = true) (h3 : factFS x = t) (hi : ints w' vi x.vals fi) (hf : Fresh w.heap.size fi) (hb : Below w.heap.size w w') : PfEnd s t w e w' :=
  ⟨x, true, vi, fi, he, .inl ⟨h, h3, rfl⟩, hi, hf, hb⟩
theorem FactIs.small {s : List Int} {t : List UInt8} {x : FactD} {k : Bool} (h : FactIs s t x k) (ht : t.length ≤ 1048576) : x.vals.length ≤ 3 := by
  rcases h with ⟨h2, _, _⟩ | ⟨_, rfl, _⟩
  · have := inR_true (factFB_parts (fact_fmt h2)).2.1; omega
  · simp
theorem load_fact {w : World} {g : Nat} {a b : Value} (h : Two w g a b) : (loadVar 79 ⟨g, 0, none⟩).run Tryz.prog w = .ok (.agg #[a, b]) w := load2 h Tryz.underlying79 rfl (by kernel_rfl)
theorem load_fact2 {w : World} {g : Nat} {a b : Value} (h : Two w g a b) (a' b' : Value) : (loadVar 79 ⟨g, 0, none⟩).run Tryz.prog ((w.setCell ⟨g, 0, none⟩ a').setCell ⟨g, 1, none⟩ b') = .ok (.agg #[a', b']) ((w.setCell ⟨g, 0, none⟩ a').setCell ⟨g, 1, none⟩ b') := load_fact (h.set a' b')
theorem SX.of_grown {w w' : World} {o : Option Nat} (h : w.grownBy w' o) : SX o.toList w w' := ⟨h.size, fun j hj hn => h.block j hj (by intro e; subst e; simp at hn)⟩
theorem own_not {o : Option Nat} {B g : Nat} (h : ∀ j, o = some j → B ≤ j) (hg : g < B) : g ∉ o.toList := by
  intro hm
  cases o with
  | none => simp at hm
  | some j => simp at hm; subst hm; have := h _ rfl; omega
theorem gr_base {α : Type} {E : TypeId} {sz B : Nat} {R : Rd α} {w : World} {v : Value} {l : List α} {f : List Nat} (h : grR E sz R B w v l f) : ∀ j, v.ownBlock = some j → B ≤ j := by
  obtain ⟨_, _, _, _, ho, _, _⟩ := h
  exact fun j hj => (own_lt ho j hj).1
theorem arr_sz (l : List UInt8) (h : l.length ≤ 1048576) : (⟨l.toArray⟩ : ByteArray).size ≤ 1048576 := by simpa [ByteArray.size] using h
theorem fact_no1 {s : List Int} {t : List UInt8} {x : FactD} (h : (factB s x = false ∨ factFS x ≠ t) → ∀ n, factB s n = true → factFS n ≠ t) (hx : factB s x = false) : ∀ n, factB s n = true → factFS n ≠ t := h (.inl hx)
theorem fact_no2 {s : List Int} {t : List UInt8} {x : FactD} (h : (factB s x = false ∨ factFS x ≠ t) → ∀ n, factB s n = true → factFS n ≠ t) (hx : factFS x ≠ t) : ∀ n, factB s n = true → factFS n ≠ t := h (.inr hx)
end Go.Proofs.YtpdmdfkcaabnaaaGreatDoor
/- l3ParseTerm and l3ParseAtom of the reference. Condition: the text is no longer than 2^20. -/
namespace Go.Proofs.YtpdmdfkcaabnaaaGreatDoor
open Go.RowKit
set_option linter.unusedVariables false
set_option linter.unusedSimpArgs false
set_option maxRecDepth 100000 in
set_option maxHeartbeats 1600000 in
theorem l3ParseTerm_any (s : ByteArray) (w : World) (hs : s.size ≤ 1048576) :
    Calls Tryz.prog 132 #[.string s] w fun e w' => e = .returned (.int .i64 (termV s.data.toList)) ∧ Below w.heap.size w w' := by
  have hsz : s.data.toList.length = s.size := by simp
  have hx : (1 < s.size ∧ ∃ b r, s.data.toList = 120 :: b :: r) ∨ ((∀ b r, s.data.toList ≠ 120 :: b :: r)) := by
    cases hl : s.data.toList with
    | nil => exact .inr (by intro b r h; cases h)
    | cons a t =>
      cases t with
      | nil => exact .inr (by intro b r h; cases h)
      | cons b r =>
        by_cases h : a = 120
        · subst h; exact .inl ⟨by rw [hl] at hsz; simp at hsz; omega, b, r, rfl⟩
        · exact .inr (by intro b' r' e; cases e; exact h rfl)
  rcases hx with ⟨h1, b, r, hl⟩ | hno
  · have hpos : 0 < s.size := by omega
    have h0 : s[0]'hpos = 120 := by rw [list_at s 0 hpos _ hl (by simp)]; rfl
    have hb : ((s[0]'hpos).toNat : Int) = 120 := by rw [h0]; rfl
    have ht : (s.extract 1 s.size).data.toList = b :: r := by
      have h1 : (s.extract 1 s.size).data.toList = (s.data.toList.drop 1).take (s.size - 1) := by simp
      rw [h1, hl]
      rw [hl] at hsz
      simp only [List.drop_succ_cons, List.drop_zero]
      exact List.take_of_length_le (by simp at hsz ⊢; omega)
    have hq := fun w => l2Num_any (s.extract 1 s.size) w (by rw [ByteArray.size_extract]; omega)
    rw [ht] at hq
    have hnb := numV_bd (b :: r)
    have HT := Lib.hid (show termV s.data.toList = if inR (numV (b :: r)) 0 7 then 10 + numV (b :: r) else -1 by rw [hl]; rfl)
    obtain ⟨v, hv⟩ : ∃ v, numV (b :: r) = v := ⟨_, rfl⟩
    rw [hv] at hq HT hnb
    have h1i : (1 : Int) < (s.size : Int) := by omega
    have h1s : (1 : Int) ≤ (s.size : Int) := by omega
    have hs0 : (0 : Int) < (s.size : Int) := by omega
    clear hv ht hl h0 hsz
    cases hin : inR v 0 7 with
    | true =>
      have HF := Lib.hid (show termV s.data.toList = 10 + v by rw [HT.out, if_pos hin])
      have hr := fun x => retB' (f86_any v 0 7 x) hin
      clear hin
      go_enter Tryz.func132, Tryz.ntmps132
      go_wp2_with fail
      refine (hq _).mono ?_
      rintro e w1 ⟨rfl, hb1⟩
      go_wp2_with fail
      refine (hr _).mono ?_
      rintro e w1' ⟨rfl, rfl⟩
      go_wp2
      go_ret
      exact ⟨ret_int (by rw [HF.out]), hb1⟩
    | false =>
      have HF := Lib.hid (show termV s.data.toList = -1 by rw [HT.out, if_neg (by rw [hin]; simp)])
      have hr := fun x => retB' (f86_any v 0 7 x) hin
      clear hin
      go_enter Tryz.func132, Tryz.ntmps132
      go_wp2_with fail
      refine (hq _).mono ?_
      rintro e w1 ⟨rfl, hb1⟩
      go_wp2_with fail
      refine (hr _).mono ?_
      rintro e w1' ⟨rfl, rfl⟩
      go_wp2
      go_ret
      exact ⟨ret_int (by rw [HF.out]), hb1⟩
  · have HT := Lib.hid (termV_other hno)
    have hq := fun w => l2Num_any s w hs
    obtain ⟨v, hv⟩ : ∃ v, numV s.data.toList = v := ⟨_, rfl⟩
    rw [hv] at hq HT
    have h2 : ¬ 1 < s.size ∨ (1 < s.size ∧ ∃ c, ∃ h : 0 < s.size, s[0] = c ∧ c ≠ 120) := by
      by_cases h1 : 1 < s.size
      · refine .inr ⟨h1, s[0]'(by omega), by omega, rfl, fun e => ?_⟩
        have h3 := list_at s 0 (by omega) _ rfl (by omega)
        cases hl : s.data.toList with
        | nil => rw [hl] at hsz; simp at hsz; omega
        | cons a t =>
          cases t with
          | nil => rw [hl] at hsz; simp at hsz; omega
          | cons b r =>
            simp only [hl, List.getElem_cons_zero] at h3
            exact hno b r (by rw [hl, ← h3, e])
      · exact .inl h1
    clear hv hno hsz
    have hcase : ∀ (W : World), inR v 0 9 = true ∨ inR v 0 9 = false := fun _ => by cases inR v 0 9 <;> simp
    rcases h2 with h1 | ⟨h1, c, hc0, hc, hne⟩
    · have h1i : ¬ (1 : Int) < (s.size : Int) := by omega
      rcases hcase w with hin | hin
      · have HF := Lib.hid (show termV s.data.toList = v by rw [HT.out, if_pos (show isVal v = true from hin)])
        have hr := fun x => retB' (f86_any v 0 9 x) hin
        clear hin hcase
        go_enter Tryz.func132, Tryz.ntmps132
        go_wp2_with fail
        refine (hq _).mono ?_
        rintro e w1 ⟨rfl, hb1⟩
        go_wp2_with fail
        refine (hr _).mono ?_
        rintro e w1' ⟨rfl, rfl⟩
        go_wp2
        go_ret
        exact ⟨ret_int (by rw [HF.out]), hb1⟩
      · have HF := Lib.hid (show termV s.data.toList = -1 by rw [HT.out, if_neg (by rw [show isVal v = false from hin]; simp)])
        have hr := fun x => retB' (f86_any v 0 9 x) hin
        clear hin hcase
        go_enter Tryz.func132, Tryz.ntmps132
        go_wp2_with fail
        refine (hq _).mono ?_
        rintro e w1 ⟨rfl, hb1⟩
        go_wp2_with fail
        refine (hr _).mono ?_
        rintro e w1' ⟨rfl, rfl⟩
        go_wp2
        go_ret
        exact ⟨ret_int (by rw [HF.out]), hb1⟩
    · have h1i : (1 : Int) < (s.size : Int) := by omega
      have hs0 : (0 : Int) < (s.size : Int) := by omega
      have hb : ((s[0].toNat : Int) == 120) = false := by
        rw [beq_eq_false_iff_ne, hc]; intro e; exact hne (UInt8.toNat_inj.1 (by have h9 : (120 : UInt8).toNat = 120 := rfl; omega))
      clear hc
      rcases hcase w with hin | hin
      · have HF := Lib.hid (show termV s.data.toList = v by rw [HT.out, if_pos (show isVal v = true from hin)])
        have hr := fun x => retB' (f86_any v 0 9 x) hin
        clear hin hcase
        go_enter Tryz.func132, Tryz.ntmps132
        go_wp2_with fail
        refine (hq _).mono ?_
        rintro e w1 ⟨rfl, hb1⟩
        go_wp2_with fail
        refine (hr _).mono ?_
        rintro e w1' ⟨rfl, rfl⟩
        go_wp2
        go_ret
        exact ⟨ret_int (by rw [HF.out]), hb1⟩
      · have HF := Lib.hid (show termV s.data.toList = -1 by rw [HT.out, if_neg (by rw [show isVal v = false from hin]; simp)])
        have hr := fun x => retB' (f86_any v 0 9 x) hin
        clear hin hcase
        go_enter Tryz.func132, Tryz.ntmps132
        go_wp2_with fail
        refine (hq _).mono ?_
        rintro e w1 ⟨rfl, hb1⟩
        go_wp2_with fail
        refine (hr _).mono ?_
        rintro e w1' ⟨rfl, rfl⟩
        go_wp2
        go_ret
        exact ⟨ret_int (by rw [HF.out]), hb1⟩
theorem results_cell1 {fn : Func} {p : Tmp} {ty : TypeId} (h : fn.results = #[.cell p ty]) (tmps : Array Value) (P : Program) (w : World) :
    (results fn tmps).run P w = ((asAddr (tmps.getD p undef)).run P w).andThen fun a w₁ => (loadVar ty a).run P w₁ := by
  simp only [results, h]
  simp [Sem.run_bind, Result.andThen]
theorem load_atom {w : World} {g : Nat} {a b : Value} (h : Two w g a b) : (loadVar 69 ⟨g, 0, none⟩).run Tryz.prog w = .ok (.agg #[a, b]) w := load2 h Tryz.underlying69 rfl (by kernel_rfl)
theorem load_atom2 {w : World} {g : Nat} {a b : Value} (h : Two w g a b) (a' b' : Value) : (loadVar 69 ⟨g, 0, none⟩).run Tryz.prog ((w.setCell ⟨g, 0, none⟩ a').setCell ⟨g, 1, none⟩ b') = .ok (.agg #[a', b']) ((w.setCell ⟨g, 0, none⟩ a').setCell ⟨g, 1, none⟩ b') := load_atom (h.set a' b')

/-- What reading an atom ends in. -/
def PaEnd (t : List UInt8) (w : World) (e : Ending) (w' : World) : Prop := ∃ (vi : Value) (fi : List Nat), e = .returned (.agg #[.int .i64 (atomV t).rel, vi]) ∧ ints w' vi (atomV t).terms fi ∧ Fresh w.heap.size fi ∧ Below w.heap.size w w'
theorem PaEnd.mk {t : List UInt8} {w w' : World} {e : Ending} (r : Int) (l : List Int) (vi : Value) (fi : List Nat) (h : atomV t = ⟨r, l⟩) (he : e = .returned (.agg #[.int .i64 r, vi])) (hi : ints w' vi l fi) (hf : Fresh w.heap.size fi) (hb : Below w.heap.size w w') : PaEnd t w e w' :=
  ⟨vi, fi, by rw [h]; exact he, by rw [h]; exact hi, hf, hb⟩
set_option maxRecDepth 100000 in
set_option maxHeartbeats 6400000 in
theorem l3ParseAtom_any (t : ByteArray) (w : World) (ht : t.size ≤ 1048576) :
    Calls Tryz.prog 133 #[.string t] w (PaEnd t.data.toList w) := by
  have htl : t.data.toList.length ≤ 1048576 := by simpa using ht
  have hcl := callS_len t.data.toList
  have hb0 : Below w.heap.size w (w.alloc (.cells #[.int .i64 0, .slice none 0 0] 69)) := ba (Below.refl _ _)
  have h40 : Two (w.alloc (.cells #[.int .i64 0, .slice none 0 0] 69)) w.heap.size (.int .i64 0) (.slice none 0 0) := Two.new _ _ _ _
  obtain ⟨N, L, hNL⟩ : ∃ N L, callS t.data.toList = (N, L) := ⟨_, _, rfl⟩
  have hq : Calls Tryz.prog 189 #[.string t] (w.alloc (.cells #[.int .i64 0, .slice none 0 0] 69)) (fun e w' => ∃ (v : Value) (f : List Nat), e = .returned (.tuple #[.string ⟨N.toArray⟩, v]) ∧ slR 9 1 strR w' v L f ∧ Below (w.alloc (.cells #[.int .i64 0, .slice none 0 0] 69)).heap.size (w.alloc (.cells #[.int .i64 0, .slice none 0 0] 69)) w') := by
    have h := l2Call_any t (w.alloc (.cells #[.int .i64 0, .slice none 0 0] 69)) ht
    unfold CallEnd at h
    rw [hNL] at h
    exact h
  rw [hNL] at hcl
  obtain ⟨hc1, hc2, hc3⟩ := hcl
  simp only at hc1 hc2 hc3
  have HNz := Lib.hid (arr_sz N (by omega))
  have HLp := Lib.hid (show ∀ p ∈ L, p.length ≤ 1048576 from fun p hp => by have := hc3 p hp; omega)
  have HFO := Lib.hid (show atomV t.data.toList = ⟨relV N, L.map termV⟩ by unfold atomV; rw [hNL])
  have hLn : L.length ≤ 1048577 := by omega
  clear hNL hc1 hc2 hc3 htl
  go_enter Tryz.func133, Tryz.ntmps133
  go_wp2_with fail
  refine hq.mono ?_
  rintro e w1 ⟨vp, fp, rfl, hp, hb1⟩
  clear hq
  obtain ⟨ap, cp, rfl⟩ := slR.form hp
  have B1 := bt hb0 hb1
  have H41 := Lib.hid (h40.below hb1)
  clear h40
  go_wp2_with fail
  refine (l2Rel_any ⟨N.toArray⟩ _ HNz.out).mono ?_
  rintro e w2 ⟨rfl, hb2⟩
  have hrd : (⟨N.toArray⟩ : ByteArray).data.toList = N := rfl
  rw [hrd]
  clear hrd
  obtain ⟨r, hr⟩ : ∃ r, relV N = r := ⟨_, rfl⟩
  have HR := Lib.hid hr
  rw [hr]
  clear hr
  have B2 := bt B1 hb2
  have H42 := Lib.hid (H41.out.below hb2)
  have hp2 := slR.below' good_str hp hb2
  have hplt := slR.lt good_str hp2
  clear hp
  have F0 : Two (w2.alloc (.cells #[.int .i64 r, .slice none 0 0] 69)) w2.heap.size (.int .i64 r) (.slice none 0 0) := Two.new _ _ _ _
  have Hw2 : w.heap.size < w2.heap.size := H42.out.lt
  have hsz0 : w2.heap.size + 1 ≤ (w2.alloc (.cells #[.int .i64 r, .slice none 0 0] 69)).heap.size := by simp only [World.alloc, Array.size_push]; omega
  have Hb0 := Lib.hid (show Below w2.heap.size w2 (w2.alloc (.cells #[.int .i64 r, .slice none 0 0] 69)) from ba (Below.refl _ _))
  go_wp2
  go_loopw [6] (fun i wr => ∃ (k : Nat) (vi : Value) (lo : List Int) (fo : List Nat), i = .int .i64 (k : Int) ∧ k ≤ L.length ∧ Hid (lo = (L.take k).map termV) ∧ Two wr w2.heap.size (.int .i64 r) vi ∧ grR 3 1 intR (w2.heap.size + 1) wr vi lo fo ∧ Below w2.heap.size w2 wr) (fun i _ => L.length - (intOf i).toNat)
  case atStart => exact ⟨0, _, [], [], rfl, Nat.zero_le _, Lib.hid (by simp), F0, grR.nilv intR, Hb0.out⟩
  case round =>
    obtain ⟨k, vi, lo, fo, rfl, hk, Hlo, Fr, hgr, Br⟩ := hrel
    have hlb : lo.length ≤ 1048577 := by rw [Hlo.out]; simp; omega
    obtain ⟨av, cv, rfl⟩ := slR.form hgr.sl
    have hgw : w2.heap.size < wr.heap.size := Fr.lt
    by_cases hlt : k < L.length
    · obtain ⟨gp, c, fk, hgp, ⟨rfl, rfl⟩, _, hc, _, _, _⟩ := slR.at (slR.below' good_str hp2 Br) k hlt
      have pk : wr.cell? ⟨gp, k, none⟩ = some (.string ⟨L[k].toArray⟩) := by have := hc 0 _ rfl; simpa using this
      clear hc
      subst hgp
      have hkl : (k : Int) < (L.length : Int) := by omega
      have hk0 : (0 : Int) ≤ (k : Int) := by omega
      have Hsz := Lib.hid (arr_sz _ (HLp.out L[k] (List.getElem_mem hlt)))
      have HS := Lib.hid (show lo ++ [termV L[k]] = (L.take (k + 1)).map termV by rw [Hlo.out, List.take_succ_eq_append_getElem hlt, List.map_append]; rfl)
      have hnb := termV_bd L[k]
      generalize L[k] = x at pk Hsz HS hnb
      have hI : I64 (termV x) := ⟨by omega, by omega⟩
      have Fr2 := Fr
      obtain ⟨⟨f0, f1⟩, y0, y1⟩ := Fr2
      clear f0 y0
      go_wp2_with fail
      go_region_law ((first
          | (refine step_gr slInt good_int rfl _ _ rfl hgr3 hcb (by rfl) #[.int .i64 (termV x)] (termV x) [] ⟨rfl, rfl, hI⟩ rfl (Fresh.nil _) (by simp) (by rfl) (by simp [Value.oneCell']) (by omega) (by unfold maxLen; omega) ?_
             intro g4 cap4 w4 fo4 hgr4 hb4 hg4
             rw [cutW_size hle] at hgr4
             have hown : ∀ j, (Value.slice av lo.length cv).ownBlock = some j → w2.heap.size + 1 ≤ j := gr_base hgr
             have s34 := SX.of_grown hg4
             have hno : w2.heap.size ∉ (Value.slice av lo.length cv).ownBlock.toList := own_not hown (by omega)
             have F4 := F3.sx s34 hno
             have B4 : Below w2.heap.size w2 w4 := (bt Br hb3).trans (below_of_grown hg4 (bt Br hb3).size fun j hj => Nat.le_of_succ_le (hown j hj))
             have F4' := F4
             obtain ⟨⟨x0, x1⟩, z0, z1⟩ := F4')
          | (go_simp
             go_wp2_with (go_at_call 132
                          refine (l3ParseTerm_any ⟨x.toArray⟩ _ Hsz.out).mono ?_
                          rintro e w3 ⟨rfl, hb3'⟩
                          have hb3 : Below wr.heap.size wr w3 := bt (by (repeat (first | exact Below.refl _ _ | refine bdr ?_ | refine ba ?_))) hb3'
                          have d1 : w3.cell? ⟨w2.heap.size, 1, none⟩ = some (.slice av lo.length cv) := cell_below f1 hb3
                          have d1' : (w3.alloc (.cells #[.int .i64 (termV x)] 3)).cell? ⟨w2.heap.size, 1, none⟩ = some (.slice av lo.length cv) := cell_al d1 _
                          have hgr3 := hgr.below' good_int hb3
                          have F3 := Fr.below hb3
                          have hle : w2.heap.size + 1 ≤ w3.heap.size := Nat.le_trans hgw hb3.size
                          have hcb := cutW_below hle
                          rw [← cutW_size hle] at hgr3))))
      all_goals
        have Hgr5 := Lib.hid (hgr4.frame good_int fun j hj => Below.heap_setCell w4 ⟨w2.heap.size, 1, none⟩ (.slice (some ⟨g4, 0, none⟩) (lo.length + 1) cap4) j (fun e => by
          have h1 := hgr4.fresh.2 j hj
          simp only [] at e
          omega))
        have HF5 := Lib.hid (F4.set1 (.slice (some ⟨g4, 0, none⟩) (lo.length + 1) cap4))
        have HB5 := Lib.hid (bs (u := .slice (some ⟨g4, 0, none⟩) (lo.length + 1) cap4) B4 (p := ⟨w2.heap.size, 1, none⟩) (Nat.le_refl _))
        clear hgr4 F4 F3 hgr3 hcb s34
        go_wp2
        go_roundw
        case rel => exact ⟨k + 1, _, lo ++ [termV x], fo4, by go_num, by omega, HS, HF5.out, Hgr5.out, HB5.out⟩
        case measure => simp [intOf]; omega
    · have HFO2 := Lib.hid (show atomV t.data.toList = ⟨r, lo⟩ by rw [HFO.out, Hlo.out, List.take_of_length_le (by omega), HR.out])
      have hin := hgr.sl
      have Hnot := Lib.hid (show w.heap.size ∉ fo from fun hm => by
        have h1 := hgr.fresh.2 _ hm
        omega)
      have Hfr := Lib.hid (hgr.fresh.mono (show w.heap.size ≤ w2.heap.size + 1 by omega))
      have H4r := Lib.hid (H42.out.below Br)
      have Bw := bt B2 Br
      have hkl : ¬ (k : Int) < (L.length : Int) := by omega
      have Fr2 := Fr
      obtain ⟨⟨f0, f1⟩, y0, y1⟩ := Fr2
      have H4y := H4r.out
      obtain ⟨⟨r0, r1⟩, q0, q1⟩ := H4y
      go_wp2
      (try simp only [Exit.inBlock, Exit.then])
      refine bodyPost_ret (v := .agg #[.int .i64 r, (.slice av lo.length cv)]) ?_ rfl ?_
      · rw [results_cell1 rfl]
        simp [asAddr, Result.andThen, load_atom2 H4r.out]
      · exact PaEnd.mk r lo _ _ HFO2.out rfl (ints_two2 hin Hnot.out _ _) Hfr.out (below_two2 Bw (Nat.le_refl _) _ _)
end Go.Proofs.YtpdmdfkcaabnaaaGreatDoor
