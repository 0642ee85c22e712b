/- cmp.Compare, cmp.Or, slices.Compare at ints; CompareFacts of the program and of the reference; slices.Equal and l2Ints; l2Has. No condition. -/
import Derived.Test.YtapapnaljjnhnaaCalc
import Derived.Deep.RegionHeld3
import Derived.StillTailTactics
namespace Go.Proofs.Ytapapnaljjnhnaa
open Go.RowKit
set_option linter.unusedVariables false
set_option linter.unusedSimpArgs false
/-- The first that is not 0, or 0. -/
def orL : List Int → Int
  | [] => 0
  | x :: t => if x = 0 then orL t else x
theorem orL_at {l : List Int} {k : Nat} (h : k < l.length) : orL (l.drop k) = if l[k] = 0 then orL (l.drop (k + 1)) else l[k] := by
  rw [List.drop_eq_getElem_cons h]; rfl
set_option maxRecDepth 100000 in
theorem indexIntQ_any (v : Value) (x : Int) (l : List Int) (f : List Nat) (w : World) (h : ints w v l f) :
    Calls Try.prog 36 #[v, .int .i64 x] w fun e w' => e = .returned (.int .i64 (idxI (fun y => x == y) l)) ∧ w = w' := by
  obtain ⟨a, cap, rfl⟩ := slR.form h
  have hla := slR.le_max h
  go_enter Try.func36, Try.ntmps36
  go_wp2
  go_loop [8] (fun i => ∃ k : Nat, i = .int .i64 k ∧ k ≤ l.length ∧ Hid (∀ j (hj : j < l.length), j < k → (x == l[j]) = false)) (fun i => l.length - (intOf i).toNat)
  case atStart => exact ⟨0, rfl, Nat.zero_le _, Lib.hid (fun j hj h0 => by omega)⟩
  case round =>
    obtain ⟨k, rfl, hk, HN⟩ := hrel
    by_cases hlt : k < l.length
    · obtain ⟨g, rfl, hc, _, _, _⟩ := h.get k hlt
      cases hp : (x == l[k]) with
      | true =>
        have Hf := Lib.hid (idxI_at (fun y => x == y) l k hlt hp HN.out)
        go_wp2
        go_ret
        exact ⟨ret_int (by rw [Hf.out]), rfl⟩
      | false =>
        have HN2 := Lib.hid (none_step (p := fun y => x == y) HN.out hlt hp)
        go_wp2
        go_round
        case rel => exact ⟨k + 1, by go_num, by omega, HN2⟩
        case measure => simp [intOf]; omega
    · have hkl : k = l.length := by omega
      have Hf := Lib.hid (idxI_none (fun y => x == y) l (fun j hj => HN.out j hj (by omega)))
      go_wp2
      go_ret
      exact ⟨ret_int (by rw [Hf.out]), rfl⟩
end Go.Proofs.Ytapapnaljjnhnaa
