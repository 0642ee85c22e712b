/- cmp.Compare, cmp.Or, slices.Compare at ints; CompareFacts of the program and of the reference; slices.Equal and l2Ints; l2Has. No condition. -/
import Derived.Test.YtpdmdfkcaabnaaaGreatDoorMA
import Derived.Deep.RegionHeld3
import Derived.StillTailTactics
namespace Go.Proofs.YtpdmdfkcaabnaaaGreatDoor
open Go.RowKit
set_option linter.unusedVariables false
set_option linter.unusedSimpArgs false
theorem cmpCompare_any (x y : Int) (w : World) :
    Calls Tryz.prog 147 #[.int .i64 x, .int .i64 y] w fun e w' => e = .returned (.int .i64 (cmpI x y)) ∧ w = w' := by
  have hx : (x != x) = false := by simp
  have hy : (y != y) = false := by simp
  rcases cmpI_vals x y with ⟨h, h2⟩ | ⟨h, h2⟩ | ⟨h, h2⟩
  · have Hf := Lib.hid h; clear h
    go_enter Tryz.func147, Tryz.ntmps147
    go_wp2
    go_ret
    exact ⟨ret_int (by rw [Hf.out]), rfl⟩
  · have Hf := Lib.hid h; clear h
    have h3 : ¬ x < y := by omega
    go_enter Tryz.func147, Tryz.ntmps147
    go_wp2
    go_ret
    exact ⟨ret_int (by rw [Hf.out]), rfl⟩
  · have Hf := Lib.hid h; clear h
    subst h2
    have h3 : ¬ x < x := by omega
    go_enter Tryz.func147, Tryz.ntmps147
    go_wp2
    go_ret
    exact ⟨ret_int (by rw [Hf.out]), rfl⟩
/-- The first that is not 0, or 0. -/
def orL : List Int → Int
  | [] => 0
  | x :: t => if x = 0 then orL t else x
theorem orL_at {l : List Int} {k : Nat} (h : k < l.length) : orL (l.drop k) = if l[k] = 0 then orL (l.drop (k + 1)) else l[k] := by
  rw [List.drop_eq_getElem_cons h]; rfl
set_option maxRecDepth 100000 in
theorem cmpOr_any (v : Value) (l : List Int) (f : List Nat) (w : World) (h : ints w v l f) :
    Calls Tryz.prog 146 #[v] w fun e w' => e = .returned (.int .i64 (orL l)) ∧ w = w' := by
  obtain ⟨a, cap, rfl⟩ := slR.form h
  have hla := slR.le_max h
  go_enter Tryz.func146, Tryz.ntmps146
  go_wp2
  go_loop [8] (fun i => ∃ k : Nat, i = .int .i64 k ∧ k ≤ l.length ∧ Hid (orL l = orL (l.drop k))) (fun i => l.length - (intOf i).toNat)
  case atStart => exact ⟨0, rfl, Nat.zero_le _, Lib.hid (by simp)⟩
  case round =>
    obtain ⟨k, rfl, hk, HN⟩ := hrel
    by_cases hlt : k < l.length
    · obtain ⟨g, rfl, hc, _, _, _⟩ := h.get k hlt
      by_cases hp : l[k] = 0
      · have HN2 := Lib.hid (HN.out.trans ((orL_at hlt).trans (if_pos hp)))
        have hq : (l[k] != 0) = false := by simp [hp]
        clear hp
        go_wp2
        go_round
        case rel => exact ⟨k + 1, by go_num, by omega, HN2⟩
        case measure => simp [intOf]; omega
      · have HN2 := Lib.hid (HN.out.trans ((orL_at hlt).trans (if_neg hp)))
        have hq : (l[k] != 0) = true := by simpa using hp
        clear hp
        go_wp2
        go_ret
        exact ⟨ret_int (by rw [HN2.out]), rfl⟩
    · have hkl : k = l.length := by omega
      have Hf := Lib.hid (show orL l = 0 by rw [HN.out, hkl, List.drop_length]; rfl)
      go_wp2
      go_ret
      exact ⟨ret_int (by rw [Hf.out]), rfl⟩
set_option maxRecDepth 100000 in
set_option maxHeartbeats 800000 in
theorem slicesCompare_any (va vb : Value) (s t : List Int) (fa fb : List Nat) (w : World) (ha : ints w va s fa) (hb : ints w vb t fb) :
    Calls Tryz.prog 148 #[va, vb] w fun e w' => e = .returned (.int .i64 (cmpL s t)) ∧ w = w' := by
  obtain ⟨a, cap, rfl⟩ := slR.form ha
  obtain ⟨b, cap', rfl⟩ := slR.form hb
  have hla := slR.le_max ha
  have hlb := slR.le_max hb
  go_enter Tryz.func148, Tryz.ntmps148
  go_wp2
  go_loop [11] (fun i => ∃ k : Nat, i = .int .i64 k ∧ k ≤ s.length ∧ k ≤ t.length ∧ Hid (cmpL s t = cmpL (s.drop k) (t.drop k))) (fun i => s.length - (intOf i).toNat)
  case atStart => exact ⟨0, rfl, Nat.zero_le _, Nat.zero_le _, Lib.hid (by simp)⟩
  case round =>
    obtain ⟨k, rfl, hk, hk2, HN⟩ := hrel
    by_cases hlt : k < s.length
    · obtain ⟨g, rfl, hc, _, _, _⟩ := ha.get k hlt
      by_cases hlt2 : k < t.length
      · obtain ⟨g', rfl, hc', _, _, _⟩ := hb.get k hlt2
        rcases cmpI_vals s[k] t[k] with ⟨h, h2⟩ | ⟨h, h2⟩ | ⟨h, h2⟩
        · have Hf := Lib.hid (HN.out.trans (cmpL_lt hlt hlt2 h2))
          have Hc := Lib.hid h; clear h
          go_wp2_with (go_at_call 147; refine (cmpCompare_any _ _ _).mono ?_; rintro e w' ⟨rfl, rfl⟩; rw [Hc.out])
          go_ret
          exact ⟨ret_int (by rw [Hf.out]), rfl⟩
        · have Hf := Lib.hid (HN.out.trans (cmpL_gt hlt hlt2 h2))
          have Hc := Lib.hid h; clear h
          go_wp2_with (go_at_call 147; refine (cmpCompare_any _ _ _).mono ?_; rintro e w' ⟨rfl, rfl⟩; rw [Hc.out])
          go_ret
          exact ⟨ret_int (by rw [Hf.out]), rfl⟩
        · have Hf := Lib.hid (HN.out.trans (cmpL_same hlt hlt2 (by omega) (by omega)))
          have Hc := Lib.hid h; clear h h2
          go_wp2_with (go_at_call 147; refine (cmpCompare_any _ _ _).mono ?_; rintro e w' ⟨rfl, rfl⟩; rw [Hc.out])
          go_round
          case rel => exact ⟨k + 1, by go_num, by omega, by omega, Hf⟩
          case measure => simp [intOf]; omega
      · have Hf := Lib.hid (HN.out.trans (cmpL_end2 (by omega) (by omega)))
        go_wp2
        go_ret
        exact ⟨ret_int (by rw [Hf.out]), rfl⟩
    · by_cases hlt2 : s.length < t.length
      · have Hf := Lib.hid (HN.out.trans (cmpL_end1 (by omega) hlt2))
        go_wp2
        go_ret
        exact ⟨ret_int (by rw [Hf.out]), rfl⟩
      · have Hf := Lib.hid (HN.out.trans (cmpL_end3 (by omega) (by omega)))
        go_wp2
        go_ret
        exact ⟨ret_int (by rw [Hf.out]), rfl⟩
set_option maxRecDepth 100000 in
set_option maxHeartbeats 800000 in
theorem slicesEqual_any (va vb : Value) (l m : List Int) (fa fb : List Nat) (w : World) (ha : ints w va l fa) (hb : ints w vb m fb) :
    Calls Tryz.prog 120 #[va, vb] w fun e w' => e = .returned (.bool (decide (l = m))) ∧ Qt w w' := by
  obtain ⟨a, cap, rfl⟩ := slR.form ha
  obtain ⟨b, cap', rfl⟩ := slR.form hb
  have hla := slR.le_max ha
  by_cases hlen : l.length = m.length
  · have Hlen := Lib.hid hlen
    have hle : m.length ≤ l.length := by omega
    have hge : l.length ≤ m.length := by omega
    have hne0 : ((l.length : Int) != (m.length : Int)) = false := by simp [hlen]
    clear hlen
    go_enter Tryz.func120, Tryz.ntmps120
    go_wp2
    go_loopw [13] (fun i wr => ∃ k n : Nat, i = .int .i64 k ∧ k ≤ l.length ∧ Hid (l.take k = m.take k) ∧ wr = w.drewN n) (fun i _ => l.length - (intOf i).toNat)
    case atStart => exact ⟨0, 0, rfl, Nat.zero_le _, Lib.hid (by simp), rfl⟩
    case round =>
      obtain ⟨k, n, rfl, hk, HT, rfl⟩ := hrel
      by_cases hlt : k < l.length
      · obtain ⟨g, rfl, hc, _, _, _⟩ := ha.get k hlt
        obtain ⟨g', rfl, hc', _, _, _⟩ := hb.get k (by omega)
        have hkm : (k : Int) < (m.length : Int) := by omega
        by_cases he : l[k] = m[k]
        · have HS := Lib.hid (take_eq_step hlt (by omega) HT.out he)
          have hne : (l[k] != m[k]) = false := by simp [he]
          clear he
          go_wp2
          go_quiet (fail)
          go_wp2
          go_roundw
          case rel => exact ⟨k + 1, _, by go_num, by omega, HS, rfl⟩
          case measure => simp [intOf]; omega
        · have Hfin := Lib.hid (ne_of_get hlt (by omega) he)
          have hne : (l[k] != m[k]) = true := by simpa using he
          clear he
          go_wp2
          go_quiet (fail)
          go_wp2
          go_ret
          exact ⟨ret_bool (by simp [Hfin.out]), by first | exact Qt.dn _ _ | exact (Qt.dn _ _).trans (Qt.dn _ _)⟩
      · have hkl : k = l.length := by omega
        have Hfin := Lib.hid (eq_of_take Hlen.out (by have := HT.out; rw [hkl] at this; exact this))
        go_wp2
        go_ret
        exact ⟨ret_bool (by simp [Hfin.out]), by first | exact Qt.dn _ _ | exact (Qt.dn _ _).trans (Qt.dn _ _)⟩
  · have hne0 : ((l.length : Int) != (m.length : Int)) = true := by simp; omega
    have Hfin := Lib.hid (show l ≠ m from fun h => hlen (by rw [h]))
    clear hlen
    go_enter Tryz.func120, Tryz.ntmps120
    go_wp2
    go_ret
    exact ⟨ret_bool (by simp [Hfin.out]), Qt.refl _⟩
set_option maxRecDepth 100000 in
set_option maxHeartbeats 800000 in
theorem l2Ints_any (va vb : Value) (l m : List Int) (fa fb : List Nat) (w : World) (ha : ints w va l fa) (hb : ints w vb m fb) :
    Calls Tryz.prog 171 #[va, vb] w fun e w' => e = .returned (.bool (decide (l = m))) ∧ Qt w w' := by
  obtain ⟨a, cap, rfl⟩ := slR.form ha
  obtain ⟨b, cap', rfl⟩ := slR.form hb
  have hla := slR.le_max ha
  by_cases hlen : l.length = m.length
  · have Hlen := Lib.hid hlen
    have hle : m.length ≤ l.length := by omega
    have hge : l.length ≤ m.length := by omega
    have hne0 : ((l.length : Int) != (m.length : Int)) = false := by simp [hlen]
    clear hlen
    go_enter Tryz.func171, Tryz.ntmps171
    go_wp2
    go_loopw [5] (fun i wr => ∃ k n : Nat, i = .int .i64 k ∧ k ≤ l.length ∧ Hid (l.take k = m.take k) ∧ wr = w.drewN n) (fun i _ => l.length - (intOf i).toNat)
    case atStart => exact ⟨0, 0, rfl, Nat.zero_le _, Lib.hid (by simp), rfl⟩
    case round =>
      obtain ⟨k, n, rfl, hk, HT, rfl⟩ := hrel
      by_cases hlt : k < l.length
      · obtain ⟨g, rfl, hc, _, _, _⟩ := ha.get k hlt
        obtain ⟨g', rfl, hc', _, _, _⟩ := hb.get k (by omega)
        have hkm : (k : Int) < (m.length : Int) := by omega
        by_cases he : l[k] = m[k]
        · have HS := Lib.hid (take_eq_step hlt (by omega) HT.out he)
          have hne : (l[k] != m[k]) = false := by simp [he]
          clear he
          go_wp2
          go_quiet (fail)
          go_wp2
          go_roundw
          case rel => exact ⟨k + 1, _, by go_num, by omega, HS, rfl⟩
          case measure => simp [intOf]; omega
        · have Hfin := Lib.hid (ne_of_get hlt (by omega) he)
          have hne : (l[k] != m[k]) = true := by simpa using he
          clear he
          go_wp2
          go_quiet (fail)
          go_wp2
          go_ret
          exact ⟨ret_bool (by simp [Hfin.out]), by first | exact Qt.dn _ _ | exact (Qt.dn _ _).trans (Qt.dn _ _)⟩
      · have hkl : k = l.length := by omega
        have Hfin := Lib.hid (eq_of_take Hlen.out (by have := HT.out; rw [hkl] at this; exact this))
        go_wp2
        go_ret
        exact ⟨ret_bool (by simp [Hfin.out]), by first | exact Qt.dn _ _ | exact (Qt.dn _ _).trans (Qt.dn _ _)⟩
  · have hne0 : ((l.length : Int) != (m.length : Int)) = true := by simp; omega
    have Hfin := Lib.hid (show l ≠ m from fun h => hlen (by rw [h]))
    clear hlen
    go_enter Tryz.func171, Tryz.ntmps171
    go_wp2
    go_ret
    exact ⟨ret_bool (by simp [Hfin.out]), Qt.refl _⟩
theorem contains_at {l : List Int} {x : Int} {k : Nat} (hk : k < l.length) (h : l[k] = x) : memB l x = true := by
  unfold memB; rw [List.contains_iff_mem]; exact h ▸ List.getElem_mem hk
theorem contains_no {l : List Int} {x : Int} (h : ∀ j (hj : j < l.length), j < l.length → (l[j] == x) = false) : memB l x = false := by
  unfold memB; rw [Bool.eq_false_iff]; intro hc
  obtain ⟨j, hj, e⟩ := List.mem_iff_getElem.1 (List.contains_iff_mem.1 hc)
  have := h j hj hj
  simp [e] at this
set_option maxRecDepth 100000 in
theorem l2Has_any (v : Value) (l : List Int) (f : List Nat) (x : Int) (w : World) (h : ints w v l f) :
    Calls Tryz.prog 119 #[v, .int .i64 x] w fun e w' => e = .returned (.bool (memB l x)) ∧ w = w' := by
  obtain ⟨a, cap, rfl⟩ := slR.form h
  have hla := slR.le_max h
  go_enter Tryz.func119, Tryz.ntmps119
  go_wp2
  go_loop [5] (fun i => ∃ k : Nat, i = .int .i64 k ∧ k ≤ l.length ∧ Hid (∀ j (hj : j < l.length), j < k → (l[j] == x) = false)) (fun i => l.length - (intOf i).toNat)
  case atStart => exact ⟨0, rfl, Nat.zero_le _, Lib.hid (fun j hj h0 => by omega)⟩
  case round =>
    obtain ⟨k, rfl, hk, HN⟩ := hrel
    by_cases hlt : k < l.length
    · obtain ⟨g, rfl, hc, _, _, _⟩ := h.get k hlt
      cases hp : (l[k] == x) with
      | true =>
        have Hf := Lib.hid (contains_at hlt (by simpa using hp))
        go_wp2
        go_ret
        exact ⟨ret_bool (by rw [Hf.out]), rfl⟩
      | false =>
        have HN2 := Lib.hid (none_step (p := fun y => y == x) HN.out hlt hp)
        go_wp2
        go_round
        case rel => exact ⟨k + 1, by go_num, by omega, HN2⟩
        case measure => simp [intOf]; omega
    · have hkl : k = l.length := by omega
      have Hf := Lib.hid (contains_no (l := l) (x := x) (fun j hj h0 => HN.out j hj (by omega)))
      go_wp2
      go_ret
      exact ⟨ret_bool (by rw [Hf.out]), rfl⟩
set_option maxRecDepth 100000 in
theorem indexIntQ_any (v : Value) (x : Int) (l : List Int) (f : List Nat) (w : World) (h : ints w v l f) :
    Calls Tryz.prog 206 #[v, .int .i64 x] w fun e w' => e = .returned (.int .i64 (idxI (fun y => x == y) l)) ∧ w = w' := by
  obtain ⟨a, cap, rfl⟩ := slR.form h
  have hla := slR.le_max h
  go_enter Tryz.func206, Tryz.ntmps206
  go_wp2
  go_loop [8] (fun i => ∃ k : Nat, i = .int .i64 k ∧ k ≤ l.length ∧ Hid (∀ j (hj : j < l.length), j < k → (x == l[j]) = false)) (fun i => l.length - (intOf i).toNat)
  case atStart => exact ⟨0, rfl, Nat.zero_le _, Lib.hid (fun j hj h0 => by omega)⟩
  case round =>
    obtain ⟨k, rfl, hk, HN⟩ := hrel
    by_cases hlt : k < l.length
    · obtain ⟨g, rfl, hc, _, _, _⟩ := h.get k hlt
      cases hp : (x == l[k]) with
      | true =>
        have Hf := Lib.hid (idxI_at (fun y => x == y) l k hlt hp HN.out)
        go_wp2
        go_ret
        exact ⟨ret_int (by rw [Hf.out]), rfl⟩
      | false =>
        have HN2 := Lib.hid (none_step (p := fun y => x == y) HN.out hlt hp)
        go_wp2
        go_round
        case rel => exact ⟨k + 1, by go_num, by omega, HN2⟩
        case measure => simp [intOf]; omega
    · have hkl : k = l.length := by omega
      have Hf := Lib.hid (idxI_none (fun y => x == y) l (fun j hj => HN.out j hj (by omega)))
      go_wp2
      go_ret
      exact ⟨ret_int (by rw [Hf.out]), rfl⟩
theorem containsIntQ_any (v : Value) (x : Int) (l : List Int) (f : List Nat) (w : World) (h : ints w v l f) :
    Calls Tryz.prog 175 #[v, .int .i64 x] w fun e w' => e = .returned (.bool (memB l x)) ∧ w = w' := by
  obtain ⟨a, cap, rfl⟩ := slR.form h
  have Ha := Lib.hid ((idxI_any (fun y => x == y) l).trans ((any_contains x l).trans rfl : _ = memB l x))
  go_enter Tryz.func175, Tryz.ntmps175
  go_wp2_with fail
  refine (indexIntQ_any _ x l f _ h).mono ?_
  rintro e w1 ⟨rfl, rfl⟩
  go_wp2
  go_ret
  exact ⟨ret_bool (by rw [← Ha.out]), rfl⟩
end Go.Proofs.YtpdmdfkcaabnaaaGreatDoor
