/- IsSchema, of the program and of the reference; hasRel. -/
import Derived.Test.YtpdmdfkcaabnaaaGreatIdxInt
import Derived.Test.YtpdmdfkcaabnaaaGreatInt
namespace Go.Proofs.YtpdmdfkcaabnaaaGreat
open Go.RowKit
set_option linter.unusedVariables false
set_option linter.unusedSimpArgs false
/-- Is it a schema. -/
def schemaB (s : List Int) : Bool := inR s.length 1 3 && !(s.any fun n => !inR n 1 3)
theorem any_false_of {α : Type} {p : α → Bool} {l : List α} (h : ∀ j (hj : j < l.length), p l[j] = false) : l.any p = false := by
  rw [List.any_eq_false]
  intro x hx
  obtain ⟨j, hj, rfl⟩ := List.mem_iff_getElem.1 hx
  simp [h j hj]
theorem any_true_of {α : Type} {p : α → Bool} {l : List α} {j : Nat} (hj : j < l.length) (h : p l[j] = true) : l.any p = true := List.any_eq_true.2 ⟨l[j], List.getElem_mem hj, h⟩
theorem none_step {α : Type} {p : α → Bool} {l : List α} {k : Nat} (H : ∀ j (hj : j < l.length), j < k → p l[j] = false) (hk : k < l.length) (h : p l[k] = false) : ∀ j (hj : j < l.length), j < k + 1 → p l[j] = false := by
  intro j hj h1
  by_cases e : j = k
  · subst e; exact h
  · exact H j hj (by omega)
set_option maxRecDepth 100000 in
set_option maxHeartbeats 800000 in
theorem specIsSchema_any (v : Value) (s : List Int) (f : List Nat) (w : World) (h : ints w v s f) :
    Calls Tryz.prog 48 #[v] w fun e w' => e = .returned (.bool (schemaB s)) ∧ w = w' := by
  obtain ⟨a, cap, rfl⟩ := slR.form h
  have hla := slR.le_max h
  go_enter Tryz.func48, Tryz.ntmps48
  go_wp2
  go_loop [3] (fun i => ∃ k : Nat, i = .int .i64 k ∧ k ≤ s.length ∧ Hid (∀ j (hj : j < s.length), j < k → (!inR s[j] 1 3) = false)) (fun i => s.length - (intOf i).toNat)
  case atStart => exact ⟨0, rfl, Nat.zero_le _, Lib.hid (fun j hj h0 => by omega)⟩
  case round =>
    obtain ⟨k, rfl, hk, HN⟩ := hrel
    by_cases hlt : k < s.length
    · obtain ⟨g, rfl, hc, _, _, _⟩ := h.get k hlt
      cases hp : inR s[k] 1 3 with
      | false =>
        have Hf := Lib.hid (show schemaB s = false by unfold schemaB; rw [any_true_of (p := fun n => !inR n 1 3) hlt (by simp [hp])]; simp)
        go_wp2_with (go_at_call 39; refine (f39_any _ _ _ _).mono ?_; rintro e w' ⟨rfl, rfl⟩)
        go_ret
        exact ⟨ret_bool (by rw [Hf.out]), rfl⟩
      | true =>
        have HN2 := Lib.hid (none_step (p := fun n => !inR n 1 3) HN.out hlt (by simp [hp]))
        go_wp2_with (go_at_call 39; refine (f39_any _ _ _ _).mono ?_; rintro e w' ⟨rfl, rfl⟩)
        go_round
        case rel => exact ⟨k + 1, by go_num, by omega, HN2⟩
        case measure => simp [intOf]; omega
    · have hkl : k = s.length := by omega
      have Hf := Lib.hid (show schemaB s = inR s.length 1 3 by unfold schemaB; rw [any_false_of (p := fun n => !inR n 1 3) (fun j hj => HN.out j hj (by omega))]; simp)
      go_wp2_with (go_at_call 39; refine (f39_any _ _ _ _).mono ?_; rintro e w' ⟨rfl, rfl⟩)
      go_ret
      exact ⟨ret_bool (by rw [Hf.out]), rfl⟩
theorem isSchema1_any (x : Int) (w : World) :
    Calls Tryz.prog 69 #[.int .i64 x] w fun e w' => e = .returned (.bool (!inR x 1 3)) ∧ w = w' := by
  go_enter Tryz.func69, Tryz.ntmps69
  go_wp2_with (go_at_call 58; refine (f58_any _ _ _ _).mono ?_; rintro e w' ⟨rfl, rfl⟩)
  go_ret
  exact ⟨rfl, rfl⟩
set_option maxRecDepth 100000 in
set_option maxHeartbeats 800000 in
theorem implIsSchema_any (v : Value) (s : List Int) (f : List Nat) (w : World) (h : ints w v s f) :
    Calls Tryz.prog 54 #[v] w fun e w' => e = .returned (.bool (schemaB s)) ∧ w = w' := by
  obtain ⟨a, cap, rfl⟩ := slR.form h
  have hla := slR.le_max h
  have hP := plain_of Tryz.func69 (by kernel_rfl) (by kernel_rfl)
  cases hp : inR s.length 1 3 with
  | false =>
    have Hf := Lib.hid (show schemaB s = false by unfold schemaB; rw [hp]; rfl)
    go_enter Tryz.func54, Tryz.ntmps54
    go_wp2_with (go_at_call 58; refine (f58_any _ _ _ _).mono ?_; rintro e w' ⟨rfl, rfl⟩)
    go_ret
    exact ⟨ret_bool (by rw [Hf.out]), rfl⟩
  | true =>
    have Hf := Lib.hid (show schemaB s = !(s.any fun n => !inR n 1 3) by unfold schemaB; rw [hp]; rfl)
    go_enter Tryz.func54, Tryz.ntmps54
    go_wp2_with (go_at_call 58; refine (f58_any _ _ _ _).mono ?_; rintro e w' ⟨rfl, rfl⟩)
    refine (containsFuncIntQ_any _ hP #[] (fun x => #[.int .i64 x]) (fun _ => rfl) (fun n => !inR n 1 3) _ s f _ h (fun i hi => isSchema1_any _ _)).mono ?_
    rintro e w1 ⟨rfl, rfl⟩
    go_wp2
    go_ret
    exact ⟨ret_bool (by rw [Hf.out]), rfl⟩
end Go.Proofs.YtpdmdfkcaabnaaaGreat
