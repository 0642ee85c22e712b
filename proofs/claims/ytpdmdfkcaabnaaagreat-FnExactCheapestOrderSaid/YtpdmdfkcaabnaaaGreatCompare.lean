/- cmp.Compare, cmp.Or, slices.Compare at ints; CompareFacts of the program and of the reference; slices.Equal and l2Ints; l2Has. No condition. -/
import Derived.Test.YtpdmdfkcaabnaaaGreatCalc
import Derived.Deep.RegionHeld3
import Derived.StillTailTactics
namespace Go.Proofs.YtpdmdfkcaabnaaaGreat
open Go.RowKit
set_option linter.unusedVariables false
set_option linter.unusedSimpArgs false
/-- The first that is not 0, or 0. -/
def orL : List Int → Int
  | [] => 0
  | x :: t => if x = 0 then orL t else x
theorem orL_at {l : List Int} {k : Nat} (h : k < l.length) : orL (l.drop k) = if l[k] = 0 then orL (l.drop (k + 1)) else l[k] := by
  rw [List.drop_eq_getElem_cons h]; rfl
theorem contains_at {l : List Int} {x : Int} {k : Nat} (hk : k < l.length) (h : l[k] = x) : memB l x = true := by
  unfold memB; rw [List.contains_iff_mem]; exact h ▸ List.getElem_mem hk
theorem contains_no {l : List Int} {x : Int} (h : ∀ j (hj : j < l.length), j < l.length → (l[j] == x) = false) : memB l x = false := by
  unfold memB; rw [Bool.eq_false_iff]; intro hc
  obtain ⟨j, hj, e⟩ := List.mem_iff_getElem.1 (List.contains_iff_mem.1 hc)
  have := h j hj hj
  simp [e] at this
set_option maxRecDepth 100000 in
theorem l2Has_any (v : Value) (l : List Int) (f : List Nat) (x : Int) (w : World) (h : ints w v l f) :
    Calls Tryz.prog 51 #[v, .int .i64 x] w fun e w' => e = .returned (.bool (memB l x)) ∧ w = w' := by
  obtain ⟨a, cap, rfl⟩ := slR.form h
  have hla := slR.le_max h
  go_enter Tryz.func51, Tryz.ntmps51
  go_wp2
  go_loop [5] (fun i => ∃ k : Nat, i = .int .i64 k ∧ k ≤ l.length ∧ Hid (∀ j (hj : j < l.length), j < k → (l[j] == x) = false)) (fun i => l.length - (intOf i).toNat)
  case atStart => exact ⟨0, rfl, Nat.zero_le _, Lib.hid (fun j hj h0 => by omega)⟩
  case round =>
    obtain ⟨k, rfl, hk, HN⟩ := hrel
    by_cases hlt : k < l.length
    · obtain ⟨g, rfl, hc, _, _, _⟩ := h.get k hlt
      cases hp : (l[k] == x) with
      | true =>
        have Hf := Lib.hid (contains_at hlt (by simpa using hp))
        go_wp2
        go_ret
        exact ⟨ret_bool (by rw [Hf.out]), rfl⟩
      | false =>
        have HN2 := Lib.hid (none_step (p := fun y => y == x) HN.out hlt hp)
        go_wp2
        go_round
        case rel => exact ⟨k + 1, by go_num, by omega, HN2⟩
        case measure => simp [intOf]; omega
    · have hkl : k = l.length := by omega
      have Hf := Lib.hid (contains_no (l := l) (x := x) (fun j hj h0 => HN.out j hj (by omega)))
      go_wp2
      go_ret
      exact ⟨ret_bool (by rw [Hf.out]), rfl⟩
set_option maxRecDepth 100000 in
theorem indexIntQ_any (v : Value) (x : Int) (l : List Int) (f : List Nat) (w : World) (h : ints w v l f) :
    Calls Tryz.prog 78 #[v, .int .i64 x] w fun e w' => e = .returned (.int .i64 (idxI (fun y => x == y) l)) ∧ w = w' := by
  obtain ⟨a, cap, rfl⟩ := slR.form h
  have hla := slR.le_max h
  go_enter Tryz.func78, Tryz.ntmps78
  go_wp2
  go_loop [8] (fun i => ∃ k : Nat, i = .int .i64 k ∧ k ≤ l.length ∧ Hid (∀ j (hj : j < l.length), j < k → (x == l[j]) = false)) (fun i => l.length - (intOf i).toNat)
  case atStart => exact ⟨0, rfl, Nat.zero_le _, Lib.hid (fun j hj h0 => by omega)⟩
  case round =>
    obtain ⟨k, rfl, hk, HN⟩ := hrel
    by_cases hlt : k < l.length
    · obtain ⟨g, rfl, hc, _, _, _⟩ := h.get k hlt
      cases hp : (x == l[k]) with
      | true =>
        have Hf := Lib.hid (idxI_at (fun y => x == y) l k hlt hp HN.out)
        go_wp2
        go_ret
        exact ⟨ret_int (by rw [Hf.out]), rfl⟩
      | false =>
        have HN2 := Lib.hid (none_step (p := fun y => x == y) HN.out hlt hp)
        go_wp2
        go_round
        case rel => exact ⟨k + 1, by go_num, by omega, HN2⟩
        case measure => simp [intOf]; omega
    · have hkl : k = l.length := by omega
      have Hf := Lib.hid (idxI_none (fun y => x == y) l (fun j hj => HN.out j hj (by omega)))
      go_wp2
      go_ret
      exact ⟨ret_int (by rw [Hf.out]), rfl⟩
theorem containsIntQ_any (v : Value) (x : Int) (l : List Int) (f : List Nat) (w : World) (h : ints w v l f) :
    Calls Tryz.prog 66 #[v, .int .i64 x] w fun e w' => e = .returned (.bool (memB l x)) ∧ w = w' := by
  obtain ⟨a, cap, rfl⟩ := slR.form h
  have Ha := Lib.hid ((idxI_any (fun y => x == y) l).trans ((any_contains x l).trans rfl : _ = memB l x))
  go_enter Tryz.func66, Tryz.ntmps66
  go_wp2_with fail
  refine (indexIntQ_any _ x l f _ h).mono ?_
  rintro e w1 ⟨rfl, rfl⟩
  go_wp2
  go_ret
  exact ⟨ret_bool (by rw [← Ha.out]), rfl⟩
end Go.Proofs.YtpdmdfkcaabnaaaGreat
