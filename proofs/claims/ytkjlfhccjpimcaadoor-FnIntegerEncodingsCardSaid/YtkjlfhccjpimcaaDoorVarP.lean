/- Plain laws of numbers of seven bits a byte: which texts are such a number's own. No condition, no program in sight. -/
import Derived.Test.YtkjlfhccjpimcaaDoorVarint
namespace Go.Proofs.YtkjlfhccjpimcaaDoor
open Go.RowKit
set_option linter.unusedVariables false
set_option linter.unusedSimpArgs false
/-- The number of the low seven bits of bytes, the first the least. -/
def leV : List UInt8 → Nat
  | [] => 0
  | b :: r => b.toNat % 128 + 128 * leV r
theorem leV_lt : ∀ l : List UInt8, leV l < 128 ^ l.length
  | [] => by simp [leV]
  | b :: r => by
    have ih := leV_lt r
    simp only [leV, List.length_cons, Nat.pow_succ]
    omega
theorem leV_append : ∀ (l : List UInt8) (b : UInt8), leV (l ++ [b]) = leV l + 128 ^ l.length * (b.toNat % 128)
  | [], b => by simp [leV]
  | a :: r, b => by
    have ih := leV_append r b
    simp only [List.cons_append, leV, List.length_cons, ih, Nat.pow_succ, Nat.mul_add]
    rw [Nat.mul_comm (128 ^ r.length) 128, Nat.mul_assoc]
    omega
theorem leV_take {t : List UInt8} {k : Nat} (h : k < t.length) : leV (t.take (k + 1)) = leV (t.take k) + 128 ^ k * (t[k].toNat % 128) := by
  rw [List.take_succ_eq_append_getElem h, leV_append, List.length_take, Nat.min_eq_left (by omega)]
theorem leV_pos : ∀ {t : List UInt8} {m : Nat} (h : m < t.length), 0 < t[m].toNat % 128 → 0 < leV (t.take (m + 1))
  | b :: r, 0, _, h => by simp only [List.getElem_cons_zero] at h; simp [leV]; omega
  | b :: r, m + 1, hm, h => by
    have ih := leV_pos (t := r) (m := m) (by simpa using hm) (by simpa using h)
    rw [List.take_succ_cons]
    simp only [leV]
    omega
/-- The first m bytes go on, the next one ends. -/
def canonAt (t : List UInt8) (m : Nat) : Prop := ∃ h : m < t.length, (∀ j (hj : j < m), 128 ≤ (t[j]'(by omega)).toNat) ∧ t[m].toNat < 128 ∧ (0 < m → 0 < t[m].toNat)
theorem var_of_canon : ∀ {t : List UInt8} {m f : Nat}, m ≤ f → canonAt t m → varBytes f (leV (t.take (m + 1))) = t.take (m + 1)
  | [], m, f, _, ⟨h, _⟩ => by simp at h
  | b :: r, 0, f, _, ⟨h, _, h1, _⟩ => by
    simp only [List.getElem_cons_zero] at h1
    simp only [List.take_succ_cons, List.take_zero, leV]
    rw [Nat.mod_eq_of_lt h1, Nat.mul_zero, Nat.add_zero, varBytes_last f _ h1]
    simp
  | b :: r, m + 1, 0, hf, _ => by omega
  | b :: r, m + 1, f + 1, hf, ⟨h, h0, h1, h2⟩ => by
    have hm : m < r.length := by simpa using h
    have hb := h0 0 (by omega)
    simp only [List.getElem_cons_zero] at hb
    simp only [List.getElem_cons_succ] at h1 h2
    have hp := h2 (by omega)
    have ih := var_of_canon (t := r) (m := m) (f := f) (by omega) ⟨hm, fun j hj => by have := h0 (j + 1) (by omega); simpa using this, h1, fun _ => hp⟩
    have hv := leV_pos (t := r) hm (by rw [Nat.mod_eq_of_lt h1]; exact hp)
    rw [List.take_succ_cons]
    simp only [leV]
    rw [varBytes_more f _ (by omega)]
    have e1 : (b.toNat % 128 + 128 * leV (r.take (m + 1))) / 128 = leV (r.take (m + 1)) := by omega
    have e2 : 128 + (b.toNat % 128 + 128 * leV (r.take (m + 1))) % 128 = b.toNat := by have := b.toNat_lt; omega
    rw [e1, e2, ih]
    simp
theorem var_shape : ∀ (f v : Nat), v < 128 ^ (f + 1) → ∀ (j : Nat) (b : UInt8), (varBytes f v)[j]? = some b → (j + 1 < (varBytes f v).length → 128 ≤ b.toNat ∧ 0 < v) ∧ (j + 1 = (varBytes f v).length → b.toNat < 128 ∧ (0 < v → 0 < b.toNat))
  | f, v, hv, j, b, hb => by
    by_cases hs : v < 128
    · rw [varBytes_last f v hs] at hb ⊢
      cases j with
      | zero =>
        simp only [List.getElem?_cons_zero, Option.some.injEq] at hb
        have e := toNat_ofNat_lt v (by omega)
        rw [hb] at e
        simp only [List.length_singleton]
        exact ⟨fun h => by omega, fun _ => ⟨by omega, fun h => by omega⟩⟩
      | succ j => simp at hb
    · cases f with
      | zero => simp at hv; omega
      | succ f =>
        rw [varBytes_more f v (by omega)] at hb ⊢
        cases j with
        | zero =>
          simp only [List.getElem?_cons_zero, Option.some.injEq] at hb
          have e := toNat_ofNat_lt (128 + v % 128) (by omega)
          rw [hb] at e
          simp only [List.length_cons]
          refine ⟨fun h => ⟨by omega, by omega⟩, fun h => ?_⟩
          have hne : (varBytes f (v / 128)).length ≠ 0 := by cases f <;> (unfold varBytes; (try split)) <;> simp
          omega
        | succ j =>
          simp only [List.getElem?_cons_succ] at hb
          have ih := var_shape f (v / 128) (pow128_step v f hv) j b hb
          simp only [List.length_cons]
          exact ⟨fun h => ⟨(ih.1 (by omega)).1, by omega⟩, fun h => ⟨(ih.2 (by omega)).1, fun _ => (ih.2 (by omega)).2 (by omega)⟩⟩
theorem canon_of_var {t : List UInt8} {m f v : Nat} (hm : m < t.length) (hv : v < 128 ^ (f + 1)) (h : varBytes f v = t.take (m + 1)) : canonAt t m := by
  have hl : (varBytes f v).length = m + 1 := by rw [h, List.length_take]; omega
  have hg : ∀ j (hj : j < t.length), j < m + 1 → (varBytes f v)[j]? = some t[j] := fun j hj h1 => by rw [h, List.getElem?_take, if_pos h1, List.getElem?_eq_getElem hj]
  refine ⟨hm, fun j hj => ?_, ?_, fun h0 => ?_⟩
  · exact ((var_shape f v hv j _ (hg j (by omega) (by omega))).1 (by omega)).1
  · exact ((var_shape f v hv m _ (hg m hm (by omega))).2 (by omega)).1
  · have hp := ((var_shape f v hv 0 _ (hg 0 (by omega) (by omega))).1 (by omega)).2
    exact ((var_shape f v hv m _ (hg m hm (by omega))).2 (by omega)).2 hp
/-- What a text decodes to. -/
def DecIs (t : List UInt8) (v n : Int) : Prop := (∃ m, m < 7 ∧ canonAt t m ∧ v = (leV (t.take (m + 1)) : Int) ∧ n = (m : Int) + 1) ∨ ((∀ m, m < 7 → ¬ canonAt t m) ∧ v = 0 ∧ n = 0)
theorem canon_one {t : List UInt8} {m n : Nat} (h : canonAt t m) (k : canonAt t n) : m = n := by
  obtain ⟨h0, h1, h2, _⟩ := h
  obtain ⟨k0, k1, k2, _⟩ := k
  rcases Nat.lt_trichotomy m n with c | c | c
  · have := k1 m c; omega
  · exact c
  · have := h1 n c; omega
theorem DecIs.one {t : List UInt8} {v n v' n' : Int} (h : DecIs t v n) (k : DecIs t v' n') : v = v' ∧ n = n' := by
  rcases h with ⟨m, hm, hc, rfl, rfl⟩ | ⟨hn, rfl, rfl⟩ <;> rcases k with ⟨m', hm', hc', rfl, rfl⟩ | ⟨hn', rfl, rfl⟩
  · obtain rfl := canon_one hc hc'; exact ⟨rfl, rfl⟩
  · exact absurd hc (hn' m hm)
  · exact absurd hc' (hn m' hm')
  · exact ⟨rfl, rfl⟩
end Go.Proofs.YtkjlfhccjpimcaaDoor
