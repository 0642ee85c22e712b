/- The laws' helpers at []int: size, copy, comparison, marks. -/
import Derived.Test.YtpdmdfkcaabnaaaGreatTypes
import Derived.Test.YtpdmdfkcaabnaaaGreatInt
import Derived.BigQuiet
import Derived.Deep.QuietTactic
namespace Go.Proofs.YtpdmdfkcaabnaaaGreat
open Go.RowKit
set_option linter.unusedVariables false
set_option linter.unusedSimpArgs false

theorem infoInt : (Tryz.prog.info? 3).map (fun i => (i.zero, i.size, i.bytes)) = some (some (.int .i64 0), 1, 8) := by kernel_rfl
theorem slInt : SlT Tryz.prog 22 3 (.int .i64 0) 1 8 := slT_of Tryz.underlying22 infoInt rfl (by decide)

/-- The cells of numbers. -/
def icells (l : List Int) : List Value := l.map (Value.int .i64)
theorem icells_rows (l : List Int) : (l.map fun n => [Value.int .i64 n]).flatten = icells l := by
  induction l with
  | nil => rfl
  | cons a t ih => simp only [List.map_cons, List.flatten_cons, ih]; rfl
theorem all_ints (w : World) (l : List Int) (hl : ∀ x ∈ l, I64 x) : All intR w (l.map fun n => [Value.int .i64 n]) l (l.map fun _ => []) := by
  induction l with
  | nil => exact .nil
  | cons a t ih => exact .cons ⟨rfl, rfl, hl a (by simp)⟩ (ih fun x hx => hl x (by simp [hx]))
theorem flat_nils (l : List Int) : (l.map fun _ => ([] : List Nat)).flatten = [] := by
  induction l with
  | nil => rfl
  | cons a t ih => simp
/-- A slice of ints is its row. -/
theorem ints_of_row {w : World} {v : Value} {l : List Int} {o : Option Nat} (h : Row w 3 1 v l.length (icells l) o) (hl : ∀ x ∈ l, I64 x) : ints w v l o.toList :=
  ⟨_, _, o, all_ints w l hl, by simp, by rw [icells_rows]; exact h, by rw [flat_nils]; simp⟩
theorem all_ints_inv {w : World} {rows : List (List Value)} {l : List Int} {fs : List (List Nat)} (h : All intR w rows l fs) : rows.flatten = icells l ∧ fs.flatten = [] ∧ ∀ x ∈ l, I64 x := by
  induction h with
  | nil => exact ⟨rfl, rfl, by simp⟩
  | cons h1 _ ih =>
    obtain ⟨rfl, rfl, h3⟩ := h1
    refine ⟨?_, ?_, ?_⟩
    · simp only [List.flatten_cons, ih.1]; rfl
    · simp only [List.flatten_cons, ih.2.1]; rfl
    · intro x hx
      rcases List.mem_cons.1 hx with rfl | hx
      · exact h3
      · exact ih.2.2 x hx
theorem row_of_ints {w : World} {v : Value} {l : List Int} {f : List Nat} (h : ints w v l f) : ∃ o, Row w 3 1 v l.length (icells l) o ∧ f = o.toList ∧ ∀ x ∈ l, I64 x := by
  obtain ⟨rows, fs, o, ha, hl, hr, rfl⟩ := h
  obtain ⟨h1, h2, h3⟩ := all_ints_inv ha
  rw [h1] at hr
  exact ⟨o, hr, by rw [h2]; simp, h3⟩
/-- The i-th number of a slice of ints. -/
theorem ints.get {w : World} {a : Option Addr} {n cap : Nat} {l : List Int} {f : List Nat} (h : ints w (.slice a n cap) l f) (i : Nat) (hi : i < l.length) :
    ∃ g, a = some ⟨g, 0, none⟩ ∧ w.cell? ⟨g, i, none⟩ = some (.int .i64 l[i]) ∧ w.frozen? ⟨g, i, none⟩ = false ∧ I64 l[i] ∧ f = [g] := by
  obtain ⟨o, hr, rfl, hw⟩ := row_of_ints h
  obtain ⟨a', cap', hv⟩ := hr.form
  cases hv
  obtain ⟨g, rfl, rfl, hc, hf⟩ := hr.at (by omega)
  exact ⟨g, rfl, hc i _ (by simp [icells, List.getElem?_eq_getElem hi]), hf i, hw _ (List.getElem_mem hi), rfl⟩
theorem intsV.get {w : World} {a : Option Addr} {n cap : Nat} {l : List Int} (h : intsV w (.slice a n cap) l) (i : Nat) (hi : i < l.length) :
    ∃ b off, a = some ⟨b, off, none⟩ ∧ w.cell? ⟨b, off + i, none⟩ = some (.int .i64 l[i]) ∧ I64 l[i] := by
  obtain ⟨b, off, c, ha, hl, hc, rfl, hw⟩ := slW.at h i hi
  exact ⟨b, off, ha, by simpa using hc 0 _ rfl, hw⟩

theorem intsV.wf {w : World} {v : Value} {l : List Int} (h : intsV w v l) : ∀ x ∈ l, I64 x := by
  intro x hx
  obtain ⟨a, cap, rfl⟩ := slW.form h
  obtain ⟨i, hi, rfl⟩ := List.mem_iff_getElem.1 hx
  obtain ⟨_, _, _, _, h3⟩ := h.get i hi
  exact h3
/-- The cells of the first k numbers, the rest still zero. -/
def partInts (l : List Int) (k : Nat) : List Value := icells (l.take k) ++ List.replicate (l.length - k) (Value.int .i64 0)
theorem partInts_zero (l : List Int) : (madeCells (Value.cells (Value.int .i64 0)) (l.length * 1)).toList = partInts l 0 := by
  show (madeCells #[Value.int .i64 0] (l.length * 1)).toList = _
  rw [toList_madeCells_one]; simp [partInts, icells]
theorem partInts_length (l : List Int) (k : Nat) (hk : k ≤ l.length) : (partInts l k).length = l.length := by simp [partInts, icells]; omega
theorem partInts_at (l : List Int) (k : Nat) (hk : k < l.length) : (partInts l k)[k]? = some (Value.int .i64 0) := by
  unfold partInts
  rw [List.getElem?_append_right (by simp [icells]; omega)]
  have : k - (icells (l.take k)).length = 0 := by simp [icells]; omega
  rw [this, List.getElem?_replicate, if_pos (by omega)]
theorem partInts_set (l : List Int) (k : Nat) (hk : k < l.length) : (partInts l k).set k (Value.int .i64 l[k]) = partInts l (k + 1) := by
  unfold partInts
  rw [List.set_append_right _ _ (by simp [icells]; omega)]
  have h0 : k - (icells (l.take k)).length = 0 := by simp [icells]; omega
  rw [h0, List.take_succ_eq_append_getElem hk]
  have : l.length - k = (l.length - (k + 1)) + 1 := by omega
  rw [this, List.replicate_succ, List.set_cons_zero]
  simp only [icells, List.map_append, List.map_cons, List.map_nil, List.append_assoc, List.cons_append, List.nil_append]
theorem partInts_full (l : List Int) (k : Nat) (hk : k = l.length) : partInts l k = icells l := by
  subst hk; simp [partInts]

set_option maxHeartbeats 400000 in
theorem toIntS_any (v : Value) (l : List Int) (w : World) (h : intsV w v l) (hn : l.length ≤ 1048576) :
    Calls Tryz.prog 7 #[v] w fun e w' => ∃ v' f, e = .returned v' ∧ ints w' v' l f ∧ Fresh w.heap.size f ∧ Below w.heap.size w w' := by
  obtain ⟨a, cap, rfl⟩ := slW.form h
  have hmk := make_row slInt l.length (by omega) (by omega)
  go_enter Tryz.func7, Tryz.ntmps7
  go_wp2
  go_loopw [4] (fun i wr => ∃ k : Nat, i = .int .i64 k ∧ k ≤ l.length ∧ Row wr 3 1 (.slice (some ⟨w.heap.size, 0, none⟩) l.length l.length) l.length (partInts l k) (some w.heap.size) ∧ Below w.heap.size w wr) (fun i _ => l.length - (intOf i).toNat)
  case atStart =>
    refine ⟨0, rfl, Nat.zero_le _, ?_, (Below.refl _ _).alloc (Nat.le_refl _) _⟩
    have := Row.made (E := 3) (sz := 1) w (madeCells (Value.cells (Value.int .i64 0)) (l.length * 1)) l.length (by unfold maxLen; omega) (by rw [size_madeCells])
    rw [partInts_zero, Nat.mul_one] at this
    exact this
  case round =>
    obtain ⟨k, rfl, hk, hrow, hbel⟩ := hrel
    by_cases hlt : k < l.length
    · obtain ⟨b, off, rfl, hc, hi⟩ := (h.below' hbel).get k hlt
      obtain ⟨g, hg, hg2, hcell, hfz⟩ := hrow.at (by omega)
      cases hg2
      have hc1 := hcell k _ (partInts_at l k hlt)
      have hf1 := hfz k
      have hs := hrow.set k (Value.int .i64 l[k])
      rw [partInts_set l k hlt] at hs
      clear hcell hfz hg hrow
      go_wp2
      go_roundw
      case rel => exact ⟨k + 1, by go_num, by omega, hs, hbel.setCell (Nat.le_refl _) _⟩
      case measure => simp [intOf]; omega
    · have hkl : k = l.length := by omega
      rw [partInts_full l k hkl] at hrow
      subst hkl
      go_wp2
      go_ret
      exact ⟨_, _, rfl, ints_of_row hrow h.wf, ⟨by simp, by simp⟩, hbel⟩
theorem take_eq_step {α : Type} {l m : List α} {k : Nat} (hl : k < l.length) (hm : k < m.length) (h : l.take k = m.take k) (he : l[k] = m[k]) : l.take (k + 1) = m.take (k + 1) := by
  rw [List.take_succ_eq_append_getElem hl, List.take_succ_eq_append_getElem hm, h, he]
theorem eq_of_take {α : Type} {l m : List α} (hlen : l.length = m.length) (h : l.take l.length = m.take l.length) : l = m := by
  rw [List.take_length, hlen, List.take_length] at h; exact h
theorem ne_of_get {α : Type} {l m : List α} {k : Nat} (hl : k < l.length) (hm : k < m.length) (he : l[k] ≠ m[k]) : l ≠ m := by
  rintro rfl; exact he rfl
set_option maxHeartbeats 400000 in
theorem eqIntS_any (va vb : Value) (l m : List Int) (fa fb : List Nat) (w : World) (ha : ints w va l fa) (hb : ints w vb m fb) :
    Calls Tryz.prog 12 #[va, vb] w fun e w' => e = .returned (.bool (decide (l = m))) ∧ Below w.heap.size w w' := by
  obtain ⟨a, cap, rfl⟩ := slR.form ha
  obtain ⟨b, cap', rfl⟩ := slR.form hb
  have hla := slR.le_max ha
  by_cases hlen : l.length = m.length
  · have Hlen := Lib.hid hlen
    have hle : m.length ≤ l.length := by omega
    have hge : l.length ≤ m.length := by omega
    have hne0 : ((l.length : Int) != (m.length : Int)) = false := by simp [hlen]
    clear hlen
    go_enter Tryz.func12, Tryz.ntmps12
    go_wp2
    go_loopw [5] (fun i wr => ∃ k : Nat, i = .int .i64 k ∧ k ≤ l.length ∧ Hid (l.take k = m.take k) ∧ Below w.heap.size w wr) (fun i _ => l.length - (intOf i).toNat)
    case atStart => exact ⟨0, rfl, Nat.zero_le _, Lib.hid (by simp), Below.refl _ _⟩
    case round =>
      obtain ⟨k, rfl, hk, HT, hbel⟩ := hrel
      by_cases hlt : k < l.length
      · obtain ⟨g, rfl, hc, _, _, _⟩ := (ha.below' hbel).get k hlt
        obtain ⟨g', rfl, hc', _, _, _⟩ := (hb.below' hbel).get k (by omega)
        by_cases he : l[k] = m[k]
        · have HS := Lib.hid (take_eq_step hlt (by omega) HT.out he)
          have hne : (l[k] != m[k]) = false := by simp [he]
          clear he
          go_wp2
          go_quiet (fail)
          go_wp2
          go_roundw
          case rel => exact ⟨k + 1, by go_num, by omega, HS, ⟨hbel.os, hbel.tape, hbel.output, hbel.size, hbel.block⟩⟩
          case measure => simp [intOf]; omega
        · have Hfin := Lib.hid (ne_of_get hlt (by omega) he)
          have hne : (l[k] != m[k]) = true := by simpa using he
          clear he
          go_wp2
          go_quiet (fail)
          go_wp2
          go_ret
          exact ⟨ret_bool (by simp [Hfin.out]), ⟨hbel.os, hbel.tape, hbel.output, hbel.size, hbel.block⟩⟩
      · have hkl : k = l.length := by omega
        have Hfin := Lib.hid (eq_of_take Hlen.out (by have := HT.out; rw [hkl] at this; exact this))
        go_wp2
        go_ret
        exact ⟨ret_bool (by simp [Hfin.out]), hbel⟩
  · have hne0 : ((l.length : Int) != (m.length : Int)) = true := by simp; omega
    have Hfin := Lib.hid (show l ≠ m from fun h => hlen (by rw [h]))
    clear hlen
    go_enter Tryz.func12, Tryz.ntmps12
    go_wp2
    go_ret
    exact ⟨ret_bool (by simp [Hfin.out]), Below.refl _ _⟩
/-- What is left of a budget. -/
def left (n : Nat) (b : Int) : Int := if b - n < 0 then -1 else b - n
theorem szIntS_any (v : Value) (l : List Int) (b : Int) (w : World) (h : intsV w v l) (hb : 0 ≤ b ∧ b ≤ 1048576) :
    Calls Tryz.prog 21 #[v, .int .i64 b] w fun e w' => e = .returned (.int .i64 (left l.length b)) ∧ w = w' := by
  obtain ⟨a, cap, rfl⟩ := slW.form h
  have hla := slW.le_max h
  by_cases hc : b - l.length < 0
  · go_enter Tryz.func21, Tryz.ntmps21
    go_wp2
    go_ret
    exact ⟨ret_int (by unfold left; rw [if_pos hc]), rfl⟩
  · go_enter Tryz.func21, Tryz.ntmps21
    go_wp2
    go_ret
    exact ⟨ret_int (by unfold left; rw [if_neg (by omega)]), rfl⟩
/-- k0, k0 + 1, .. -/
def marks (k0 : Int) (n : Nat) : List Int := (List.range n).map fun (i : Nat) => k0 + (i : Int)
theorem marks_length (k0 : Int) (n : Nat) : (marks k0 n).length = n := by simp [marks]
theorem marks_succ (k0 : Int) (n : Nat) : marks k0 (n + 1) = marks k0 n ++ [k0 + (n : Int)] := by simp [marks, List.range_succ]
theorem marks_get (k0 : Int) (n i : Nat) (hi : i < (marks k0 n).length) : (marks k0 n)[i] = k0 + (i : Int) := by simp [marks]
theorem marks_step (k0 : Int) (l : List Int) (j : Nat) (hj : j < l.length) : (marks k0 j ++ l.drop j).set j (k0 + (j : Int)) = marks k0 (j + 1) ++ l.drop (j + 1) := by
  rw [List.set_append_right _ _ (by rw [marks_length]; omega), marks_length, Nat.sub_self, List.drop_eq_getElem_cons hj, List.set_cons_zero, marks_succ]
  simp
theorem ints.store {w : World} {a : Option Addr} {n cap : Nat} {l : List Int} {f : List Nat} {g : Nat} (h : ints w (.slice a n cap) l f) (j : Nat) (hj : j < l.length) (hg : f = [g]) (u : Int) (hu : I64 u) :
    ints (w.setCell ⟨g, j, none⟩ (.int .i64 u)) (.slice a n cap) (l.set j u) f := by
  obtain ⟨o, hr, rfl, hw⟩ := row_of_ints h
  have ho : o = some g := by cases o <;> simp_all
  subst ho
  have hs := hr.set j (.int .i64 u)
  have e : (icells l).set j (.int .i64 u) = icells (l.set j u) := by simp [icells, List.map_set]
  rw [e] at hs
  have hs' : Row (w.setCell ⟨g, j, none⟩ (.int .i64 u)) 3 1 (.slice a n cap) (l.set j u).length (icells (l.set j u)) (some g) := by rw [List.length_set]; exact hs
  refine ints_of_row hs' fun x hx => ?_
  rcases List.mem_or_eq_of_mem_set hx with h1 | rfl
  · exact hw x h1
  · exact hu
set_option maxHeartbeats 400000 in
theorem markIntS_any (v : Value) (l : List Int) (f : List Nat) (k0 : Int) (w : World) (h : ints w v l f) (hk0 : 0 ≤ k0 ∧ k0 ≤ 1000000000) (hn : l.length ≤ 1000000000) :
    Calls Tryz.prog 15 #[v, .int .i64 k0] w fun e w' => e = .returned (.int .i64 (k0 + l.length)) ∧ ints w' v (marks k0 l.length) f ∧ Wrote f w w' := by
  obtain ⟨a, cap, rfl⟩ := slR.form h
  go_enter Tryz.func15, Tryz.ntmps15
  go_wp2
  go_loopw [1, 5] (fun x i wr => ∃ j : Nat, i = .int .i64 j ∧ j ≤ l.length ∧ x = .int .i64 (k0 + j) ∧ ints wr (.slice a l.length cap) (marks k0 j ++ l.drop j) f ∧ Wrote f w wr) (fun _ i _ => l.length - (intOf i).toNat)
  case atStart => exact ⟨0, rfl, Nat.zero_le _, by simp, by simpa [marks] using h, Wrote.refl _ _⟩
  case round =>
    obtain ⟨j, rfl, hj, rfl, hr, hwr⟩ := hrel
    by_cases hlt : j < l.length
    · have hjl : j < (marks k0 j ++ l.drop j).length := by simp [marks_length]; omega
      obtain ⟨g, rfl, hc, hfz, _, hfg⟩ := hr.get j hjl
      have hs := ints.store hr j hjl hfg (k0 + j) (by unfold I64; omega)
      rw [marks_step k0 l j hlt] at hs
      have HF := Lib.hid hfg
      clear hfg hr h
      go_wp2
      go_roundw
      case rel => exact ⟨j + 1, by go_num, by omega, by go_num, hs, hwr.setCell (by rw [HF.out]; simp) _⟩
      case measure => simp [intOf]; omega
    · have hkl : j = l.length := by omega
      subst hkl
      have hr' : ints wr (.slice a l.length cap) (marks k0 l.length) f := by simpa using hr
      clear hr
      go_wp2
      go_ret
      exact ⟨rfl, hr', hwr⟩
end Go.Proofs.YtpdmdfkcaabnaaaGreat
