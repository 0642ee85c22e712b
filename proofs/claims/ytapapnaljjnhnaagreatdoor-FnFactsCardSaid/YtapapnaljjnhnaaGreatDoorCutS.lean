/- l2Cut, l2Num, l2Rel of the reference: texts cut into pieces, numbers read off them. Condition: the text is no longer than 2^20. -/
import Derived.Test.YtapapnaljjnhnaaGreatDoorParL
import Derived.Test.YtapapnaljjnhnaaGreatDoorParI
import Derived.Test.YtapapnaljjnhnaaGreatDoorMB
import Derived.Laws.Strings
import Derived.Laws.Slices
namespace Go.Proofs.YtapapnaljjnhnaaGreatDoor
open Go.RowKit
set_option linter.unusedVariables false
set_option linter.unusedSimpArgs false
theorem grR.lit2 {α : Type} {E : TypeId} {sz : Nat} {w : World} {n : Nat} (R : Rd α) (hn : n = w.heap.size) : grR E sz R w.heap.size (w.alloc (.cells #[] E)) (.slice (some ⟨n, 0, none⟩) 0 0) [] [w.heap.size] := by
  subst hn; exact grR.lit R (Nat.le_refl _) (Nat.le_refl _)
theorem take_data (s : ByteArray) (k : Nat) (h : s.size ≤ k) : s.data.toList.take k = s.data.toList := List.take_of_length_le (by simpa using h)
theorem str_more (p : List UInt8) (s : ByteArray) (k : Nat) (h : k < s.size) : (⟨p.toArray⟩ : ByteArray) ++ s.extract k (k + 1) = ⟨(p ++ [s[k]]).toArray⟩ := by
  apply ByteArray.ext
  have e : (s.extract k (k + 1)).data.toList = [s[k]] := by
    have h1 : (s.extract k (k + 1)).data.toList = (s.data.toList.drop k).take 1 := by simp
    have hk : k < s.data.toList.length := by simpa using h
    rw [h1, List.drop_eq_getElem_cons hk]
    rfl
  rw [ByteArray.data_append]
  apply Array.ext'
  simp only [Array.toList_append, e]
theorem run_slice_lh {P : Program} (w : World) (t : TypeId) (s : ByteArray) (ht : P.underlying t = some .string) (kl kh : IntKind) (l h : Int) (h0 : 0 ≤ l) (h1 : l ≤ h) (h2 : h ≤ s.size) :
    (Instr.slice t (.string s) (some (.int kl l)) (some (.int kh h)) none).run P w = .ok (.string (s.extract l.toNat h.toNat)) w := by
  have eh : (h.toNat : Int) = h := Int.toNat_of_nonneg (by omega)
  simp [Instr.slice, run_underlying ht, Instr.sliceBounds, run_sliceBound, sliced, *, eh, (by omega : 0 ≤ h)]
/-- What cutting ends in. -/
def CutEnd (l : List (List UInt8)) (w : World) (e : Ending) (w' : World) : Prop := ∃ (g cap : Nat) (f : List Nat), e = .returned (.slice (some ⟨g, 0, none⟩) l.length cap) ∧ grR 9 1 strR w.heap.size w' (.slice (some ⟨g, 0, none⟩) l.length cap) l f ∧ Below w.heap.size w w'
theorem CutEnd.mk {l : List (List UInt8)} {w w' : World} {e : Ending} (g cap : Nat) (f : List Nat) (he : e = .returned (.slice (some ⟨g, 0, none⟩) l.length cap)) (h : grR 9 1 strR w.heap.size w' (.slice (some ⟨g, 0, none⟩) l.length cap) l f) (hb : Below w.heap.size w w') : CutEnd l w e w' := ⟨g, cap, f, he, h, hb⟩
set_option maxRecDepth 100000 in
set_option maxHeartbeats 1600000 in
theorem l2Cut_any (s : ByteArray) (c : UInt8) (w : World) (hs : s.size ≤ 1048576) :
    Calls Tryz.prog 131 #[.string s, .int .u8 (c.toNat : Int)] w (CutEnd (cutL c s.data.toList) w) := by
  have hsz : s.data.toList.length = s.size := by simp
  have hc8 := c.toNat_lt
  go_enter Tryz.func131, Tryz.ntmps131
  go_wp2
  go_loopw [5, 6, 7] (fun u p i wr => ∃ (k gu cu : Nat) (lo : List (List UInt8)) (la : List UInt8) (fo : List Nat), i = .int .i64 (k : Int) ∧ k ≤ s.size ∧ u = .slice (some ⟨gu, 0, none⟩) lo.length cu ∧ p = .string ⟨la.toArray⟩ ∧ Hid (lo = cutDone c (s.data.toList.take k)) ∧ Hid (la = cutLast c (s.data.toList.take k)) ∧ grR 9 1 strR w.heap.size wr u lo fo ∧ Below w.heap.size w wr) (fun _ _ i _ => s.size - (intOf i).toNat)
  case atStart => exact ⟨0, _, _, [], [], _, rfl, Nat.zero_le _, rfl, rfl, Lib.hid rfl, Lib.hid rfl, grR.lit2 strR rfl, ba (Below.refl _ _)⟩
  case round =>
    obtain ⟨k, gu, cu, lo, la, fo, rfl, hk, rfl, rfl, HL, HA, hgr, hbel⟩ := hrel
    have hlo : lo.length ≤ 1048576 := by rw [HL.out]; have := cutDone_len c (s.data.toList.take k); rw [List.length_take] at this; omega
    have hla : la.length ≤ 1048576 := by rw [HA.out]; have := cutLast_len c (s.data.toList.take k); rw [List.length_take] at this; omega
    by_cases hlt : k < s.size
    · have hkl : (k : Int) < (s.size : Int) := by omega
      have HT := Lib.hid (take_snoc s k hlt)
      have hm := str_more la s k hlt
      obtain ⟨b, hb⟩ : ∃ b, s[k] = b := ⟨_, rfl⟩
      by_cases hbc : b = c
      · have hbi : (s[k].toNat : Int) = (c.toNat : Int) := by rw [hb, hbc]
        have HL2 := Lib.hid (show lo ++ [la] = cutDone c (s.data.toList.take (k + 1)) by rw [HT.out, hb, hbc, (cut_sep c _).1, HL.out, HA.out])
        have HA2 := Lib.hid (show [] = cutLast c (s.data.toList.take (k + 1)) by rw [HT.out, hb, hbc, (cut_sep c _).2])
        clear hb hbc hm
        go_wp2_with (at_builtin; refine wpList_gr slStr good_str rfl _ _ rfl hgr hbel rfl #[.string _] la [] ⟨rfl, rfl⟩ rfl (Fresh.nil _) (by simp) rfl (by simp [Value.oneCell']) (by omega) (by unfold maxLen; omega) ?_; intro g3 cap3 w2 f2 hgr3 hb3 hg3)
        go_roundw
        case rel => exact ⟨k + 1, g3, cap3, lo ++ [la], [], f2, by go_num, by omega, by simp, rfl, HL2, HA2, by simpa using hgr3, hb3⟩
        case measure => simp [intOf]; omega
      · have hbi : ((s[k].toNat : Int) == (c.toNat : Int)) = false := by
          rw [beq_eq_false_iff_ne, hb]; intro e; exact hbc (UInt8.toNat_inj.1 (by omega))
        have HL2 := Lib.hid (show lo = cutDone c (s.data.toList.take (k + 1)) by rw [HT.out, hb, (cut_more _ hbc).1, HL.out])
        have HA2 := Lib.hid (show la ++ [s[k]] = cutLast c (s.data.toList.take (k + 1)) by rw [HT.out, hb, (cut_more _ hbc).2, HA.out])
        clear hb hbc
        have Hm := Lib.hid hm
        have hk1 : (k : Int) + 1 ≤ (s.size : Int) := by omega
        have hk0 : (0 : Int) ≤ (k : Int) := by omega
        have hsl := fun (w : World) => run_slice_lh (P := Tryz.prog) w 9 s Tryz.underlying9 .i64 .i64 (k : Int) ((k : Int) + 1) (by omega) (by omega) hk1
        clear hm
        go_wp2
        go_roundw
        case rel => exact ⟨k + 1, gu, cu, lo, la ++ [s[k]], fo, by go_num, by omega, rfl, by rw [← Hm.out], HL2, HA2, hgr, hbel⟩
        case measure => simp [intOf]; omega
    · have hkl : ¬ (k : Int) < (s.size : Int) := by omega
      have HF := Lib.hid (show cutL c s.data.toList = lo ++ [la] by rw [HL.out, HA.out, take_data s k (by omega)]; exact cut_all _ _)
      go_wp2_with (at_builtin; refine wpList_gr slStr good_str rfl _ _ rfl hgr hbel rfl #[.string _] la [] ⟨rfl, rfl⟩ rfl (Fresh.nil _) (by simp) rfl (by simp [Value.oneCell']) (by omega) (by unfold maxLen; omega) ?_; intro g3 cap3 w2 f2 hgr3 hb3 hg3)
      go_ret
      exact CutEnd.mk g3 cap3 f2 (by rw [HF.out]; simp) (by rw [HF.out]; simpa using hgr3) hb3
theorem par_fun {t : List UInt8} {v : Int} {k : Bool} (h : IntIs t v k) : v = (pInt t).getD 0 ∧ k = (pInt t).isSome := h.one (pInt_is t)
set_option maxRecDepth 100000 in
theorem l2Num_any (s : ByteArray) (w : World) (hs : s.size ≤ 1048576) :
    Calls Tryz.prog 188 #[.string s] w fun e w' => e = .returned (.int .i64 (numV s.data.toList)) ∧ Below w.heap.size w w' := by
  have hq := specParseInt_any s w hs
  cases hp : pInt s.data.toList with
  | some n =>
    have Hf := Lib.hid (show numV s.data.toList = n by unfold numV; rw [hp]; rfl)
    have Hq := Lib.hid (fun v k (h : IntIs s.data.toList v k) => (show v = n ∧ k = true by have := par_fun h; rw [hp] at this; exact this))
    clear hp
    go_enter Tryz.func188, Tryz.ntmps188
    go_wp2_with fail
    refine hq.mono ?_
    rintro e w1 ⟨v, k, rfl, hI, hb⟩
    obtain ⟨rfl, rfl⟩ := Hq.out _ _ hI
    clear hI hq
    go_wp2
    go_ret
    exact ⟨ret_int (by rw [Hf.out]), hb⟩
  | none =>
    have Hf := Lib.hid (show numV s.data.toList = -100000 by unfold numV; rw [hp]; rfl)
    have Hq := Lib.hid (fun v k (h : IntIs s.data.toList v k) => (show v = 0 ∧ k = false by have := par_fun h; rw [hp] at this; exact this))
    clear hp
    go_enter Tryz.func188, Tryz.ntmps188
    go_wp2_with fail
    refine hq.mono ?_
    rintro e w1 ⟨v, k, rfl, hI, hb⟩
    obtain ⟨rfl, rfl⟩ := Hq.out _ _ hI
    clear hI hq
    go_wp2
    go_ret
    exact ⟨ret_int (by rw [Hf.out]), hb⟩
theorem relV_other {t : List UInt8} (h : ∀ b r, t ≠ 114 :: b :: r) : relV t = -1 := by
  unfold relV
  split
  · rename_i b r; exact absurd rfl (h b r)
  · rfl
set_option maxRecDepth 100000 in
set_option maxHeartbeats 800000 in
theorem l2Rel_any (s : ByteArray) (w : World) (hs : s.size ≤ 1048576) :
    Calls Tryz.prog 190 #[.string s] w fun e w' => e = .returned (.int .i64 (relV s.data.toList)) ∧ Below w.heap.size w w' := by
  have hsz : s.data.toList.length = s.size := by simp
  by_cases h2 : s.size < 2
  · have h2i : (s.size : Int) < 2 := by omega
    have Hf := Lib.hid (relV_other (t := s.data.toList) fun b r e => by rw [e] at hsz; simp at hsz; omega)
    go_enter Tryz.func190, Tryz.ntmps190
    go_wp2
    go_ret
    exact ⟨ret_int (by rw [Hf.out]), Below.refl _ _⟩
  · have h2i : ¬ (s.size : Int) < 2 := by omega
    have h0 : 0 < s.size := by omega
    have hs0 : (0 : Int) < (s.size : Int) := by omega
    obtain ⟨a, r, hl⟩ : ∃ a r, s.data.toList = a :: r := by
      cases hl : s.data.toList with
      | nil => rw [hl] at hsz; simp at hsz; omega
      | cons a r => exact ⟨a, r, rfl⟩
    have ha : s[0] = a := by
      have : s[0] = s.data.toList[0]'(by rw [hsz]; omega) := rfl
      rw [this]; simp [hl]
    by_cases h114 : a = 114
    · have hb : (s[0].toNat : Int) = 114 := by rw [ha, h114]; rfl
      have ht : (s.extract 1 s.size).data.toList = r := by
        have h1 : (s.extract 1 s.size).data.toList = (s.data.toList.drop 1).take (s.size - 1) := by simp
        rw [h1, hl]
        rw [hl] at hsz
        simp only [List.drop_succ_cons, List.drop_zero]
        exact List.take_of_length_le (by simp at hsz; omega)
      have Hf := Lib.hid (show relV s.data.toList = numV (s.extract 1 s.size).data.toList by
        rw [ht, hl, h114]
        cases r with
        | nil => rw [hl] at hsz; simp at hsz; omega
        | cons b t => rfl)
      have hq := fun w => l2Num_any (s.extract 1 s.size) w (by rw [ByteArray.size_extract]; omega)
      have h1s : (1 : Int) ≤ (s.size : Int) := by omega
      clear ha ht hl
      go_enter Tryz.func190, Tryz.ntmps190
      go_wp2_with fail
      refine (hq _).mono ?_
      rintro e w1 ⟨rfl, hb1⟩
      clear hq
      go_wp2
      go_ret
      exact ⟨ret_int (by rw [Hf.out]; try simp), hb1⟩
    · have hb : ((s[0].toNat : Int) == 114) = false := by
        rw [beq_eq_false_iff_ne, ha]; intro e; exact h114 (UInt8.toNat_inj.1 (by have h9 : (114 : UInt8).toNat = 114 := rfl; omega))
      have Hf := Lib.hid (relV_other (t := s.data.toList) fun b r' e => by rw [hl] at e; cases e; exact h114 rfl)
      clear ha hl
      go_enter Tryz.func190, Tryz.ntmps190
      go_wp2
      go_ret
      exact ⟨ret_int (by rw [Hf.out]), Below.refl _ _⟩
end Go.Proofs.YtapapnaljjnhnaaGreatDoor
