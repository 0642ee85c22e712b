/- slices.IndexFunc, ContainsFunc, Index, Contains at []int. -/
import Derived.Test.YtpdmdfkcaabnaaaGreatHBase
namespace Go.Proofs.YtpdmdfkcaabnaaaGreat
open Go.RowKit
set_option linter.unusedVariables false
set_option linter.unusedSimpArgs false
/-- A call of this function enters its body. -/
def Plain (P : Program) (K : Nat) : Prop := ∀ (args : Array Value) (w : World), (callFunc K args).run P w = .ok (.enter K args) w
theorem plain_of {P : Program} {K : Nat} {fn : Func} (hf : P.funcs[K]? = some fn) (hn : (fn.name == "runtime.NumGoroutine") = false) (hb : fn.body.isNone = false) : Plain P K := by
  intro args w
  have h1 : fn.name ≠ "runtime.NumGoroutine" := by simpa using hn
  have h2 : fn.body ≠ none := fun e => by rw [e] at hb; cases hb
  simp [callFunc, Sem.run_bind, hf, h1, h2, go_sem]
/-- The place of the first element that a test takes, or -1. -/
def idxI {α : Type} (p : α → Bool) (l : List α) : Int := match l.findIdx? p with | some i => (i : Int) | none => -1
theorem idxI_at {α : Type} (p : α → Bool) (l : List α) (i : Nat) (hi : i < l.length) (hp : p l[i] = true) (hn : ∀ j (hj : j < l.length), j < i → p l[j] = false) : idxI p l = i := by
  have : l.findIdx? p = some i := by
    rw [List.findIdx?_eq_some_iff_getElem]
    exact ⟨hi, hp, fun j hji => by simpa using hn j (by omega) hji⟩
  simp [idxI, this]
theorem idxI_none {α : Type} (p : α → Bool) (l : List α) (hn : ∀ j (hj : j < l.length), p l[j] = false) : idxI p l = -1 := by
  have : l.findIdx? p = none := by
    rw [List.findIdx?_eq_none_iff]
    intro x hx
    obtain ⟨j, hj, rfl⟩ := List.mem_iff_getElem.1 hx
    exact hn j hj
  simp [idxI, this]
theorem idxI_any {α : Type} (p : α → Bool) (l : List α) : decide (0 ≤ idxI p l) = l.any p := by
  unfold idxI
  cases h : l.findIdx? p with
  | none =>
    rw [List.findIdx?_eq_none_iff] at h
    have : l.any p = false := by rw [List.any_eq_false]; intro x hx; simp [h x hx]
    simp [this]
  | some i =>
    rw [List.findIdx?_eq_some_iff_getElem] at h
    obtain ⟨hi, hp, _⟩ := h
    have : l.any p = true := List.any_eq_true.2 ⟨l[i], List.getElem_mem hi, hp⟩
    simp [this]
set_option maxRecDepth 100000 in
set_option maxHeartbeats 800000 in
theorem indexFuncInt_any (K : Nat) (hK : Plain Tryz.prog K) (caps : Array Value) (A : Int → Array Value) (hA : ∀ x, #[.int .i64 x] ++ caps = A x) (p : Int → Bool) (v : Value) (l : List Int) (f : List Nat) (w : World) (h : ints w v l f)
    (hcall : ∀ (i : Nat) (hi : i < l.length) (w' : World), Below w.heap.size w w' → Calls Tryz.prog K (A l[i]) w' fun e w'' => e = .returned (.bool (p l[i])) ∧ Below w'.heap.size w' w'') :
    Calls Tryz.prog 77 #[v, .func (.func K) #[] caps] w fun e w' => e = .returned (.int .i64 (idxI p l)) ∧ Below w.heap.size w w' := by
  obtain ⟨a, cap, rfl⟩ := slR.form h
  have hla := slR.le_max h
  have HC := Lib.hid hcall
  have HA := Lib.hid hA
  clear hcall hA
  unfold Plain at hK
  go_enter Tryz.func77, Tryz.ntmps77
  go_wp2
  go_loopw [8] (fun i wr => ∃ k : Nat, i = .int .i64 k ∧ k ≤ l.length ∧ Hid (∀ j (hj : j < l.length), j < k → p l[j] = false) ∧ Below w.heap.size w wr) (fun i _ => l.length - (intOf i).toNat)
  case atStart => exact ⟨0, rfl, Nat.zero_le _, Lib.hid (fun j hj h0 => by omega), Below.refl _ _⟩
  case round =>
    obtain ⟨k, rfl, hk, HN, hbel⟩ := hrel
    by_cases hlt : k < l.length
    · obtain ⟨g, rfl, hc, _, _, _⟩ := (h.below' hbel).get k hlt
      go_wp2_with fail
      have hAk := HA.out l[k]
      rw [hAk]
      clear hAk
      refine (HC.out k hlt _ hbel).mono ?_
      rintro e w1 ⟨rfl, hb1⟩
      have hb2 := hbel.trans (hb1.mono hbel.size)
      cases hp : p l[k] with
      | true =>
        have Hf := Lib.hid (idxI_at p l k hlt hp HN.out)
        clear hp
        go_wp2
        go_ret
        exact ⟨ret_int (by rw [Hf.out]), hb2⟩
      | false =>
        have HN2 := Lib.hid (show ∀ j (hj : j < l.length), j < k + 1 → p l[j] = false from fun j hj h1 => by
          by_cases e : j = k
          · subst e; exact hp
          · exact HN.out j hj (by omega))
        clear hp
        go_wp2
        go_roundw
        case rel => exact ⟨k + 1, by go_num, by omega, HN2, hb2⟩
        case measure => simp [intOf]; omega
    · have hkl : k = l.length := by omega
      have Hf := Lib.hid (idxI_none p l (fun j hj => HN.out j hj (by omega)))
      go_wp2
      go_ret
      exact ⟨ret_int (by rw [Hf.out]), hbel⟩
set_option maxRecDepth 100000 in
set_option maxHeartbeats 800000 in
theorem indexFuncIntQ_any (K : Nat) (hK : Plain Tryz.prog K) (caps : Array Value) (A : Int → Array Value) (hA : ∀ x, #[.int .i64 x] ++ caps = A x) (p : Int → Bool) (v : Value) (l : List Int) (f : List Nat) (w : World) (h : ints w v l f)
    (hcall : ∀ (i : Nat) (hi : i < l.length), Calls Tryz.prog K (A l[i]) w fun e w'' => e = .returned (.bool (p l[i])) ∧ w = w'') :
    Calls Tryz.prog 77 #[v, .func (.func K) #[] caps] w fun e w' => e = .returned (.int .i64 (idxI p l)) ∧ w = w' := by
  obtain ⟨a, cap, rfl⟩ := slR.form h
  have hla := slR.le_max h
  have HC := Lib.hid hcall
  have HA := Lib.hid hA
  clear hcall hA
  unfold Plain at hK
  go_enter Tryz.func77, Tryz.ntmps77
  go_wp2
  go_loop [8] (fun i => ∃ k : Nat, i = .int .i64 k ∧ k ≤ l.length ∧ Hid (∀ j (hj : j < l.length), j < k → p l[j] = false)) (fun i => l.length - (intOf i).toNat)
  case atStart => exact ⟨0, rfl, Nat.zero_le _, Lib.hid (fun j hj h0 => by omega)⟩
  case round =>
    obtain ⟨k, rfl, hk, HN⟩ := hrel
    by_cases hlt : k < l.length
    · obtain ⟨g, rfl, hc, _, _, _⟩ := h.get k hlt
      go_wp2_with fail
      have hAk := HA.out l[k]
      rw [hAk]
      clear hAk
      refine (HC.out k hlt).mono ?_
      rintro e w1 ⟨rfl, rfl⟩
      cases hp : p l[k] with
      | true =>
        have Hf := Lib.hid (idxI_at p l k hlt hp HN.out)
        clear hp
        go_wp2
        go_ret
        exact ⟨ret_int (by rw [Hf.out]), rfl⟩
      | false =>
        have HN2 := Lib.hid (show ∀ j (hj : j < l.length), j < k + 1 → p l[j] = false from fun j hj h1 => by
          by_cases e : j = k
          · subst e; exact hp
          · exact HN.out j hj (by omega))
        clear hp
        go_wp2
        go_round
        case rel => exact ⟨k + 1, by go_num, by omega, HN2⟩
        case measure => simp [intOf]; omega
    · have hkl : k = l.length := by omega
      have Hf := Lib.hid (idxI_none p l (fun j hj => HN.out j hj (by omega)))
      go_wp2
      go_ret
      exact ⟨ret_int (by rw [Hf.out]), rfl⟩
theorem containsFuncIntQ_any (K : Nat) (hK : Plain Tryz.prog K) (caps : Array Value) (A : Int → Array Value) (hA : ∀ x, #[.int .i64 x] ++ caps = A x) (p : Int → Bool) (v : Value) (l : List Int) (f : List Nat) (w : World) (h : ints w v l f)
    (hcall : ∀ (i : Nat) (hi : i < l.length), Calls Tryz.prog K (A l[i]) w fun e w'' => e = .returned (.bool (p l[i])) ∧ w = w'') :
    Calls Tryz.prog 63 #[v, .func (.func K) #[] caps] w fun e w' => e = .returned (.bool (l.any p)) ∧ w = w' := by
  obtain ⟨a, cap, rfl⟩ := slR.form h
  have HC := Lib.hid hcall
  have HA := Lib.hid hA
  have Ha := Lib.hid (idxI_any p l)
  clear hcall hA
  go_enter Tryz.func63, Tryz.ntmps63
  go_wp2_with fail
  refine (indexFuncIntQ_any K hK caps A HA.out p _ l f _ h HC.out).mono ?_
  rintro e w1 ⟨rfl, rfl⟩
  go_wp2
  go_ret
  exact ⟨ret_bool (by rw [← Ha.out]), rfl⟩
theorem containsFuncInt_any (K : Nat) (hK : Plain Tryz.prog K) (caps : Array Value) (A : Int → Array Value) (hA : ∀ x, #[.int .i64 x] ++ caps = A x) (p : Int → Bool) (v : Value) (l : List Int) (f : List Nat) (w : World) (h : ints w v l f)
    (hcall : ∀ (i : Nat) (hi : i < l.length) (w' : World), Below w.heap.size w w' → Calls Tryz.prog K (A l[i]) w' fun e w'' => e = .returned (.bool (p l[i])) ∧ Below w'.heap.size w' w'') :
    Calls Tryz.prog 63 #[v, .func (.func K) #[] caps] w fun e w' => e = .returned (.bool (l.any p)) ∧ Below w.heap.size w w' := by
  obtain ⟨a, cap, rfl⟩ := slR.form h
  have HC := Lib.hid hcall
  have HA := Lib.hid hA
  have Ha := Lib.hid (idxI_any p l)
  clear hcall hA
  go_enter Tryz.func63, Tryz.ntmps63
  go_wp2_with fail
  refine (indexFuncInt_any K hK caps A HA.out p _ l f _ h HC.out).mono ?_
  rintro e w1 ⟨rfl, hb1⟩
  go_wp2
  go_ret
  exact ⟨ret_bool (by rw [← Ha.out]), hb1⟩
set_option maxRecDepth 100000 in
set_option maxHeartbeats 800000 in
theorem indexInt_any (v : Value) (x : Int) (l : List Int) (f : List Nat) (w : World) (h : ints w v l f) :
    Calls Tryz.prog 78 #[v, .int .i64 x] w fun e w' => e = .returned (.int .i64 (idxI (fun y => x == y) l)) ∧ Below w.heap.size w w' := by
  obtain ⟨a, cap, rfl⟩ := slR.form h
  have hla := slR.le_max h
  go_enter Tryz.func78, Tryz.ntmps78
  go_wp2
  go_loopw [8] (fun i wr => ∃ k : Nat, i = .int .i64 k ∧ k ≤ l.length ∧ Hid (∀ j (hj : j < l.length), j < k → (x == l[j]) = false) ∧ Below w.heap.size w wr) (fun i _ => l.length - (intOf i).toNat)
  case atStart => exact ⟨0, rfl, Nat.zero_le _, Lib.hid (fun j hj h0 => by omega), Below.refl _ _⟩
  case round =>
    obtain ⟨k, rfl, hk, HN, hbel⟩ := hrel
    by_cases hlt : k < l.length
    · obtain ⟨g, rfl, hc, _, _, _⟩ := (h.below' hbel).get k hlt
      cases hp : (x == l[k]) with
      | true =>
        have Hf := Lib.hid (idxI_at (fun y => x == y) l k hlt hp HN.out)
        go_wp2
        go_ret
        exact ⟨ret_int (by rw [Hf.out]), hbel⟩
      | false =>
        have HN2 := Lib.hid (show ∀ j (hj : j < l.length), j < k + 1 → (x == l[j]) = false from fun j hj h1 => by
          by_cases e : j = k
          · subst e; exact hp
          · exact HN.out j hj (by omega))
        go_wp2
        go_roundw
        case rel => exact ⟨k + 1, by go_num, by omega, HN2, hbel⟩
        case measure => simp [intOf]; omega
    · have hkl : k = l.length := by omega
      have Hf := Lib.hid (idxI_none (fun y => x == y) l (fun j hj => HN.out j hj (by omega)))
      go_wp2
      go_ret
      exact ⟨ret_int (by rw [Hf.out]), hbel⟩
theorem any_contains (x : Int) (l : List Int) : l.any (fun y => x == y) = l.contains x := by
  induction l with
  | nil => rfl
  | cons a t ih => rw [List.any_cons, ih]; rfl
theorem containsInt_any (v : Value) (x : Int) (l : List Int) (f : List Nat) (w : World) (h : ints w v l f) :
    Calls Tryz.prog 66 #[v, .int .i64 x] w fun e w' => e = .returned (.bool (l.contains x)) ∧ Below w.heap.size w w' := by
  obtain ⟨a, cap, rfl⟩ := slR.form h
  have Ha := Lib.hid ((idxI_any (fun y => x == y) l).trans (any_contains x l))
  go_enter Tryz.func66, Tryz.ntmps66
  go_wp2_with fail
  refine (indexInt_any _ x l f _ h).mono ?_
  rintro e w1 ⟨rfl, hb1⟩
  go_wp2
  go_ret
  exact ⟨ret_bool (by rw [← Ha.out]), hb1⟩
end Go.Proofs.YtpdmdfkcaabnaaaGreat
